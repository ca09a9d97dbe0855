/- Proofs over the given program, part 20. -/
import Derived.Test.YtaamacoicojhnaaGreatZO19
set_option linter.unusedVariables false
set_option linter.unusedSimpArgs false
set_option maxRecDepth 100000
set_option maxHeartbeats 16000000
open Go.Proofs.Tryz
open Go.Proofs.Tryz renaming prog→ZP
open Go.World(cell? frozen?)
open Go.Value(int slice pointer bool)
open Go.IntKind(i64)
namespace Go.Proofs.YtaamacoicojhnaaGreat
open Go.RowKit Go.Sort
structure Cg(c:CfM)(fold:Bool)(wss:Lq)(text:List Int):Prop where
 right:An fold wss=true
 scan:c.scan=scF fold wss c.S
 lon:Au wss=(c.L:Int)
 mx:∀y∈wss,y.length<=c.L
 L:1<=c.L
 K:1<=c.K/\c.K<=256
 S:1<=c.S/\c.S<=256
 F:c.F<=4611686018427387904
 len:text.length<=200
def hB(c:CfM)(fold:Bool)(wss:Lq)(text:List Int)(j:Nat):List AF:=Dj ((c.F+j*c.K:Nat):Int) (BQ fold wss 0 (((c.F+j*c.K:Nat):Int)-((min c.wm (j*c.K):Nat):Int)) (dtB c.K c.wm text j))
structure WkB(c:CfM)(fold:Bool)(wss:Lq)(text:List Int)(x:WkM):Prop where
 b:GQ c text x.blk
 d:x.done<=x.blk.data.length
 z:x.node=Bp fold wss 0 (x.blk.data.take x.done)
 h:x.hits=Dj (x.blk.start:Int) (BQ fold wss 0 ((x.blk.start:Int)-x.blk.warm) (x.blk.data.take x.done))
 p2:x.ph=2->x.done<x.blk.data.length/\∃k,x.done=k*c.S
 p3:x.ph=3->x.done=x.blk.data.length
def WkX(c:CfM)(fold:Bool)(wss:Lq)(text:List Int)(x:WkM):Prop:=(x.ph=1->x.node=0/\x.done=0/\x.hits=[])/\(x.ph=2∨x.ph=3->WkB c fold wss text x)
section
variable {c:CfM}{fold:Bool}{wss:Lq}{text:List Int}{x:WkM}{b:Bc}
theorem afl(K wm j:Nat)(text:List Int):(dtB K wm text j).length=min (j*K+K) text.length-(j*K-min wm (j*K)):=by unfold dtB;rw[List.length_drop,Ag]
theorem GQ.len(h:GQ c text b)(Z:Cg c fold wss text):b.data.length=min (b.num*c.K+c.K) text.length-(b.num*c.K-min c.wm (b.num*c.K))/\b.warm<b.data.length/\b.data.length<=b.warm+c.K/\b.warm<=c.wm:=by have e:=afl c.K c.wm b.num text;rw[<-h.dt]at e;have:=h.lt;have:=h.wm;have:=Z.K;omega
theorem GQ.prb(h:GQ c text b)(Z:Cg c fold wss text)(z d:Nat)(Y:z<(AB wss).length)(X:d<=b.data.length):DI fold wss b.start b.warm b.data.length z d=true:=by
 obtain⟨h1,h2,h3,h4⟩:=h.len Z;have C:=h.st;have D:=h.wm;have H:=h.lt;have I:=Z.F;have J:=Z.len;have N:=Z.L;have U:=Z.K;have V:c.wm=c.L-1:=rfl;unfold DI KA Dh;rw[Z.right,Z.lon,Ve (show((0:Int)<=(z:Int)/\(z:Int)<((AB wss).length:Int))/\(0:Int)<=0/\(0:Int)<=4611686020574871551 by omega),Ve (show 0<=(b.start:Int)/\(b.start:Int)<=4611686020574871551/\0<=(b.warm:Int)/\(b.warm:Int)<=(c.L:Int)-1/\(b.warm:Int)<=(b.start:Int)/\1<=(b.data.length:Int)-(b.warm:Int)/\(b.data.length:Int)-(b.warm:Int)<=256 by omega),Ve (show 0<=(d:Int)/\(d:Int)<=(b.data.length:Int) by omega)]
 rfl
theorem adP(h:GQ c text b)(Y:Cg c fold wss text)(d:Nat)(V:d<=b.data.length) :c.scan b.start b.warm b.data (Bp fold wss 0 (b.data.take d)) d=(Bp fold wss 0 (b.data.take (d+Am b.data.length d c.S)),d+Am b.data.length d c.S,Dj (b.start:Int) (BQ fold wss (Bp fold wss 0 (b.data.take d)) ((b.start:Int)-b.warm+d) ((b.data.drop d).take (Am b.data.length d c.S))),decide (d+Am b.data.length d c.S=b.data.length)):=by
 have X:0<(AB wss).length:=(AP.1 (CM wss)).1;have Z:=h.prb Y (Bp fold wss 0 (b.data.take d)) d (JY X _) V;rw[Y.scan];unfold scF slZ slD slH slO;rw[Vb Z,Vb Z,Vb Z,Vb Z];unfold Fs CU;simp only[Aa];rw[List.take_add,No];have U:((d:Int)+((Am b.data.length d c.S:Nat):Int)).toNat=d+Am b.data.length d c.S:=by omega
 have e2:decide ((d:Int)+((Am b.data.length d c.S:Nat):Int)=(b.data.length:Int))=decide (d+Am b.data.length d c.S=b.data.length):=by rw[Db,decide_eq_true_eq,decide_eq_true_eq];omega
 rw[U,e2]
theorem apc(h:GQ c text b):Dj (b.start:Int) (BQ fold wss 0 ((b.start:Int)-b.warm) b.data)=hB c fold wss text b.num:=by unfold hB;rw[h.st,h.wm,h.dt]
theorem WkB.scan(h:WkB c fold wss text x)(V:Cg c fold wss text)(X:x.ph=2):WkB c fold wss text {x with node:=(c.scan x.blk.start x.blk.warm x.blk.data x.node x.done).1,done:=(c.scan x.blk.start x.blk.warm x.blk.data x.node x.done).2.1,hits:=x.hits++(c.scan x.blk.start x.blk.warm x.blk.data x.node x.done).2.2.1,ph:=if(c.scan x.blk.start x.blk.warm x.blk.data x.node x.done).2.2.2 then 3 else x.ph}:=by
 obtain⟨p1,k,p2⟩:=h.p2 X;rw[h.z,adP h.b V x.done h.d];have Y:=Jw (n:=x.blk.data.length) (d:=(x.done:Int)) (m:=(c.S:Int)) om (by have:=h.d;omega);rw[Aa]at Y;refine⟨h.b,Y,rfl,?_,λe=>?_,λe=>?_⟩
 ·show x.hits++_=_;dsimp only;rw[List.take_add,JE,aa5,<-h.h,Ag,Nat.min_eq_left h.d]
 ·dsimp only at e⊢;rw[X]at e
  by_cases Z:x.done+Am x.blk.data.length x.done c.S=x.blk.data.length
  ·rw[Vb (Ve Z)]at e;cases e
  ·refine⟨by omega,k+1,?_⟩;rw[Nat.succ_mul,<-p2];unfold Am at Z Y⊢;omega
 ·dsimp only at e⊢;rw[X]at e
  by_cases Z:x.done+Am x.blk.data.length x.done c.S=x.blk.data.length
  ·exact Z
  ·rw[Va (by simp[Z])]at e;cases e
theorem WkX.take(h:WkX c fold wss text x)(X:x.ph=1)(Z:GQ c text b)(Y:Cg c fold wss text):WkX c fold wss text {x with ph:=2,blk:=b}:=by
 obtain⟨h1,h2,h3⟩:=h.1 X;obtain⟨J,N,U,V⟩:=Z.len Y;refine⟨(λe=>by cases e),λ_=>⟨Z,?_,?_,?_,λ_=>⟨?_,0,?_⟩,(λe=>by cases e)⟩⟩
 ·show x.done<=b.data.length;omega
 ·show x.node=Bp fold wss 0 (b.data.take x.done);rw[h1,h2];rfl
 ·show x.hits=Dj (b.start:Int) (BQ fold wss 0 _ (b.data.take x.done));rw[h2,h3];rfl
 ·show x.done<b.data.length;omega
 ·show x.done=0*c.S;rw[h2,Nat.zero_mul]
theorem WkB.done(h:WkB c fold wss text x)(Z:x.ph=3):x.hits=hB c fold wss text x.blk.num:=by have:=h.h;rw[h.p3 Z,Hl]at this;rw[this,apc h.b]
theorem apf(p:Nat)(Z:p=1∨p=4):WkX c fold wss text (wk0 p):=⟨λ_=>⟨rfl,rfl,rfl⟩,λe=>by have e:p=2∨p=3:=e;omega⟩
theorem alT(Z:Cg c fold wss text)(j:Nat)(V:j*c.K<text.length):hB c fold wss text j=BQ fold wss (Bp fold wss 0 (text.take (j*c.K))) ((c.F:Int)+((j*c.K:Nat):Int)) ((text.drop (j*c.K)).take (min (j*c.K+c.K) text.length-j*c.K)):=by
 have D:GQ c text ⟨j,c.F+j*c.K,min c.wm (j*c.K),dtB c.K c.wm text j,0⟩:=⟨rfl,rfl,rfl,V⟩;have J:0<(AB wss).length:=(AP.1 (CM wss)).1;have C:dtB c.K c.wm text j=(text.drop (j*c.K-min (c.L-1) (j*c.K))).take (min (j*c.K+c.K) text.length-(j*c.K-min (c.L-1) (j*c.K))):=by
  unfold dtB;rw[List.drop_take];show(text.drop (j*c.K-min (c.L-1) (j*c.K))).take (j*c.K+c.K-(j*c.K-min (c.L-1) (j*c.K)))=_
  by_cases I:j*c.K+c.K<=text.length
  ·rw[Nat.min_eq_left I]
  ·rw[Nat.min_eq_right (show text.length<=j*c.K+c.K by omega),Ap (by rw[List.length_drop];omega),Ap (by rw[List.length_drop];omega)]
 have H:apq c.K c.L (c.F:Int) text j ⟨(j:Int),(c.F:Int)+((j*c.K:Nat):Int),((min (c.L-1) (j*c.K):Nat):Int),none,0,0,dtB c.K c.wm text j⟩:=⟨V,rfl,rfl,C⟩;have N:=aiP Z.right Z.lon Z.mx Z.L Z.K.1 Z.K.2 om (by have:=Z.F;omega) Z.len H;rw[<-N];have Y:=D.prb Z 0 0 J (AR _);have X:((c.F+j*c.K:Nat):Int)=(c.F:Int)+((j*c.K:Nat):Int):=by omega
 unfold hB whH slH Fs CU;dsimp only at Y⊢;rw[X]at Y⊢;rw[Vb (by exact Y)];have U:c.wm=c.L-1:=rfl;congr 2
 ·omega
 ·unfold Am;rw[Ap]
  ·rfl
  ·rw[List.length_drop];omega
theorem amV(Y:Cg c fold wss text):∀i,(i=0∨(i-1)*c.K<text.length)->(List.range i).flatMap (hB c fold wss text)=BQ fold wss 0 (c.F:Int) (text.take (i*c.K))
 |0,_=>by rw[Nat.zero_mul];rfl
 |i+1,h=>by
  have Z:i*c.K<text.length:=by
   rcases h with h|h
   ·cases h
   ·exact h
  have V:i=0∨(i-1)*c.K<text.length:=by
   rcases i with _|i
   ·exact .inl rfl
   ·refine .inr (Nat.lt_of_le_of_lt (IO _ ?_) Z);omega
  rw[El,List.flatMap_append,amV Y i V,List.flatMap_cons,List.flatMap_nil,Cx,alT Y i Z];have e:text.take ((i+1)*c.K)=text.take (i*c.K)++(text.drop (i*c.K)).take (min (i*c.K+c.K) text.length-i*c.K):=by
   rw[Nat.succ_mul]
   by_cases X:i*c.K+c.K<=text.length
   ·rw[Nat.min_eq_left X,<-List.take_add,show i*c.K+(i*c.K+c.K-i*c.K)=i*c.K+c.K by omega]
   ·rw[Nat.min_eq_right om,<-List.take_add,show i*c.K+(text.length-i*c.K)=text.length by omega,Hl,Ap om]
  rw[e,JE,Ag,Nat.min_eq_left (DP Z)]
theorem aoe(Z:Cg c fold wss text)(B:Nat)(h1:B=0∨(B-1)*c.K<text.length)(h2:text.length<=B*c.K):(List.range B).flatMap (hB c fold wss text)=EL fold wss (c.F:Int) text:=by rw[amV Z B h1,Ap h2,Lj Z.right]
end
structure CQ(c:CfM)(fold:Bool)(wss:Lq)(text:List Int)(s:PlM):Prop where
 rd:RdX c text s
 q:∀b∈s.q,GQ c text b
 w:∀(i:Nat)(x:WkM),s.wk[i]?=some x->WkX c fold wss text x
 g:∀(i:Nat)(h:List AF),s.rg[i]?=some (some h)->h=hB c fold wss text (s.next+i)/\(s.next+i)*c.K<text.length
 m:s.took++s.out++s.left=(List.range s.next).flatMap (hB c fold wss text)
 w4:∀(i:Nat)(x:WkM),s.wk[i]?=some x->x.ph=4->s.rd.ph=5/\s.q=[]
 m3:s.mph=3->s.rd.ph=5/\s.next=s.number
 e2:s.eph=2->s.mph=3/\s.out=[]
 m1:s.mph≠2->s.left=[]
 nb:s.number=0∨(s.number-1)*c.K<text.length
section
variable {c:CfM}{fold:Bool}{wss:Lq}{text:List Int}{s t:PlM}{i k:Nat}{x:WkM}
theorem CQ.rdr(h:CQ c fold wss text s)(h5:s.rd.ph≠5)(V:RdX c text t)(h1:∀b∈t.q,GQ c text b)(h2:t.wk=s.wk)(h3:t.rg=s.rg)(h4:t.next=s.next)(J:t.took=s.took)(e2:t.out=s.out)(X:t.left=s.left)(Z:t.mph=s.mph)(N:t.eph=s.eph)(h6:t.number=0∨(t.number-1)*c.K<text.length):CQ c fold wss text t:=⟨V,h1,by rw[h2];exact h.w,by rw[h3,h4];exact h.g,by rw[J,e2,X,h4];exact h.m,λi x Y U=>by rw[h2]at Y;exact absurd (h.w4 i x Y U).1 h5,λe=>by rw[Z]at e;exact absurd (h.m3 e).1 h5,by rw[N,Z,e2];exact h.e2,by rw[Z,X];exact h.m1,h6⟩
theorem CQ.stepR(h:CQ c fold wss text s)(D:Cg c fold wss text)(Y:EE c s)(J:s.cancelled=false)(X:Ck c s=true):CQ c fold wss text (stepR c s):=by
 have h5:s.rd.ph≠5:=λe=>by unfold Ck at X;rw[Vb e]at X;cases X
 have U:¬s.cancelled=true:=by rw[J];decide
 have C:=Y.a.r.ph;unfold Proofs.YtaamacoicojhnaaGreat.stepR;rw[Va U]
 split
 ·rename_i h1
  have ha:Du s.next c.R s.number=true:=by unfold Ck at X;rw[Va h5,Va U,Vb h1]at X;exact X
  have V:=Y.b.free (Y.n J) Y.a.r h1 ha;have hB:s.fr.getLast?.getD 0<s.ds.length:=by rw[MV V];have:=(AP.1 (Y.b.uf _ (List.getLast_mem V))).1;rw[Y.b.dl,<-Y.b.ul];exact this
  exact h.rdr h5 (h.rd.takeR h1 hB D.K.1) h.q rfl rfl rfl rfl rfl rfl rfl rfl h.nb
 ·split
  ·rename_i H h2
   have N:=h.rd.readR (c:=c) h2;refine h.rdr h5 N ?_ ?_ ?_ ?_ ?_ ?_ ?_ ?_ ?_ ?_
   all_goals
    unfold readR;dsimp only
    split
    ·split
     ·first|rfl|exact h.q|exact h.nb
     ·first|rfl|exact h.q|exact h.nb
    ·first|rfl|exact h.q|exact h.nb
  ·split
   ·rename_i H A h3
    obtain⟨B,I⟩:=h.rd.putR h3;refine h.rdr h5 B (λb Z=>?_) rfl rfl rfl rfl rfl rfl rfl rfl (.inr ?_)
    ·have Z:b∈s.q++[_]:=Z
     rcases Bf.1 Z with Z|Z
     ·exact h.q b Z
     ·rw[Fq]at Z;rw[Z];exact I
    ·show(s.number+1-1)*c.K<text.length;exact I.lt
   ·have h4:s.rd.ph=4:=by omega
    exact h.rdr h5 (h.rd.shutR h4) h.q rfl rfl rfl rfl rfl rfl rfl rfl h.nb
theorem CQ.wkr(h:CQ c fold wss text s)(U:s.wk[i]?=some x)(f:WkM->WkM)(C:WkX c fold wss text (f x))(h4:(f x).ph=4->s.rd.ph=5/\t.q=[])(H:RdX c text t)(h1:∀b∈t.q,b∈s.q)(h2:t.wk=s.wk.modify i f)(h3:∀(i:Nat)(h:List AF),t.rg[i]?=some (some h)->h=hB c fold wss text (s.next+i)/\(s.next+i)*c.K<text.length)(V:t.next=s.next)(e:t.took=s.took)(e2:t.out=s.out)(I:t.left=s.left)(X:t.mph=s.mph)(o:t.eph=s.eph)(J:t.rd=s.rd)(N:t.number=s.number):CQ c fold wss text t:=by
 refine⟨H,λb B=>h.q b (h1 b B),λj y Z=>?_,by rw[V];exact h3,by rw[e,e2,I,V];exact h.m,λj y Z Y=>?_,by rw[X,J,V,N];exact h.m3,by rw[o,X,e2];exact h.e2,by rw[X,I];exact h.m1,by rw[N];exact h.nb⟩
 ·rw[h2]at Z;exact Ju h.w U C j y Z
 ·rw[h2]at Z;rw[J];refine Ju (p:=λy=>y.ph=4->s.rd.ph=5/\t.q=[]) (λj y Z Y=>?_) U h4 j y Z Y;obtain⟨v,A⟩:=h.w4 j y Z Y;refine⟨v,?_⟩
  cases D:t.q with
  |nil=>rfl
  |cons b l=>have:=h1 b (by rw[D];exact List.mem_cons_self ..);rw[A]at this;cases this
theorem CQ.stepW(h:CQ c fold wss text s)(D:Cg c fold wss text)(N:EE c s)(C:s.cancelled=false)(Y:s.wk[i]?=some x)(X:Er s i=true):CQ c fold wss text (stepW c s i):=by
 have H:¬s.cancelled=true:=by rw[C];decide
 have o:=N.a.r.wp _ x Y;have hW:=h.w i x Y;have h4:x.ph≠4:=λe=>by unfold Er at X;rw[Y]at X;dsimp only at X;rw[Vb e]at X;cases X
 unfold Proofs.YtaamacoicojhnaaGreat.stepW;rw[Va H,Fc Y]
 split
 ·rename_i h1
  unfold takeW
  cases J:s.q with
  |nil=>
   have B:s.rd.ph=5:=by unfold Er at X;rw[Y]at X;dsimp only at X;rw[Va h4,Vb h1]at X;unfold Ep at X;rw[J,N.a.f.shu]at X;exact Vc (by simpa using X)
   refine h.wkr Y (λw=>{w with ph:=4}) ⟨(λe=>by cases e),(λe=>by rcases e with e|e<;>cases e)⟩ (λ_=>⟨B,J⟩) (h.rd.same rfl rfl rfl rfl rfl λ_=>rfl) (λb V=>V) rfl h.g rfl rfl rfl rfl rfl rfl rfl rfl
  |cons b l=>
   refine h.wkr Y (λw=>{w with ph:=2,blk:=b}) (hW.take h1 (h.q b (by rw[J];exact List.mem_cons_self ..)) D) (λe=>by cases e) (h.rd.same rfl rfl rfl rfl rfl λ_=>rfl) (λb' V=>by rw[J];exact MT _ V) rfl h.g rfl rfl rfl rfl rfl rfl rfl rfl
 ·rename_i v
  split
  ·rename_i h2
   have A:=(hW.2 (.inl h2)).scan D h2;unfold scanW;refine h.wkr Y _ ⟨λe=>?_,λ_=>A⟩ (λe=>?_) (h.rd.same rfl rfl rfl rfl rfl λ_=>rfl) (λb V=>V) rfl h.g rfl rfl rfl rfl rfl rfl rfl rfl
   ·dsimp only at e;rw[h2]at e
    split at e<;>cases e
   ·dsimp only at e;rw[h2]at e
    split at e<;>cases e
  ·rename_i y
   have h3:x.ph=3:=by omega
   have hB:=hW.2 (.inr h3);obtain⟨p1,p2,p3,p4⟩:=(N.n C).place N.a.f.gl Y (.inr h3);unfold putWM;rw[Y];dsimp only;rw[Ly (s:={s with rg:=s.rg.set (x.blk.num-s.next) (some x.hits)}) Y];have I:s.rd.ph=2∨s.rd.ph=3->x.blk.buf≠s.rd.buf:=λe e2=>by
    have Z:=N.b.cnt s.rd.buf;unfold Cu rdB at Z;rw[Vb (N.a.r.ho.2 e),En]at Z;have h6:0<((If s).map Bc.buf).count s.rd.buf:=by refine Iv.2 (Be.2 ⟨x.blk,?_,e2⟩);unfold If;refine List.mem_append_right _ (Ir.2 ⟨x,AX Y,?_⟩);unfold Proofs.YtaamacoicojhnaaGreat.hW;rw[Vb (.inr h3)];exact List.mem_singleton_self _
    have h7:([s.rd.buf]:List Nat).count s.rd.buf=1:=by simp
    rw[h7]at Z
    split at Z<;>omega
   refine h.wkr Y (λ_=>wk0 1) (apf 1 (.inl rfl)) (λe=>by cases e) (h.rd.same rfl rfl rfl rfl ?_ λe=>?_) (λb V=>V) rfl (λj l U=>?_) rfl rfl rfl rfl rfl rfl rfl rfl
   ·exact(aiu {s with rg:=s.rg.set (x.blk.num-s.next) (some x.hits)} x.blk.buf (x.blk.buf+1) om).2
   ·exact(aiu {s with rg:=s.rg.set (x.blk.num-s.next) (some x.hits)} x.blk.buf s.rd.buf (I e)).1
   ·have U:(s.rg.set (x.blk.num-s.next) (some x.hits))[j]?=some (some l):=U
    by_cases e:x.blk.num-s.next=j
    ·subst e;rw[FU (AP.1 p4).1]at U
     cases AK (AK U)
     rw[show s.next+(x.blk.num-s.next)=x.blk.num by omega];exact⟨hB.done h3,hB.b.lt⟩
    ·rw[FH e]at U;exact h.g j l U
theorem CQ.stepMg(h:CQ c fold wss text s)(o:EE c s)(hc:s.cancelled=false)(Z:EX c s=true):CQ c fold wss text (stepMg s):=by
 have D:¬s.cancelled=true:=by rw[hc];decide
 have a2:=o.a.r.mp;have h3:s.mph≠3:=λe=>by unfold EX at Z;rw[Vb e]at Z;cases Z
 have Y:s.eph≠2:=λe=>h3 (h.e2 e).1;unfold Proofs.YtaamacoicojhnaaGreat.stepMg;rw[Va D]
 split
 ·rename_i h1
  have U:=h.m1 om;have N:=h.m;rw[U,Cx]at N;unfold takeM
  split
  ·rename_i J r C
   have j:=h.g 0 J (by rw[C];rfl);rw[DQ]at j;have y:(List.range (s.next+1)).flatMap (hB c fold wss text)=s.took++s.out++J:=by rw[El,List.flatMap_append,List.flatMap_cons,List.flatMap_nil,Cx,<-N,<-j.1]
   have I:∀(i:Nat)(l:List AF),(r++[none])[i]?=some (some l)->l=hB c fold wss text (s.next+1+i)/\(s.next+1+i)*c.K<text.length:=λi l X=>by
    have A:i<r.length:=Md λa1=>by
     rw[DY om]at X
     cases v:i-r.length with
     |zero=>rw[v]at X;cases X
     |succ n=>rw[v]at X;cases X
    rw[By A]at X;have:=h.g (i+1) l (by rw[C];exact X);rw[show s.next+(i+1)=s.next+1+i by omega]at this;exact this
   split
   ·rename_i V
    have H:J=[]:=by cases J with
     |nil=>rfl
     |cons a b=>cases V
    refine⟨h.rd.same rfl rfl rfl rfl rfl λ_=>rfl,h.q,h.w,I,?_,h.w4,λe=>absurd e h3,λe=>absurd e Y,h.m1,h.nb⟩;show s.took++s.out++s.left=_;rw[y,U,H]
   ·refine⟨h.rd.same rfl rfl rfl rfl rfl λ_=>rfl,h.q,h.w,I,?_,h.w4,(λe=>by cases e),λe=>absurd e Y,λe=>absurd rfl e,h.nb⟩;show s.took++s.out++J=_;rw[y]
  ·rename_i B
   have hs:s.rd.ph=5/\s.next=s.number:=by
    unfold EX at Z;rw[Va h3,Va D,Vb h1]at Z;unfold Gt at Z
    split at Z
    ·rename_i a b C;exact absurd C (B a b)
    ·rw[Bool.false_or,Bq,decide_eq_true_eq,decide_eq_true_eq]at Z;exact Z
   exact⟨h.rd.same rfl rfl rfl rfl rfl λ_=>rfl,h.q,h.w,h.g,h.m,h.w4,λ_=>hs,λe=>absurd e Y,λ_=>U,h.nb⟩
 ·rename_i n1
  have h2:s.mph=2:=by omega
  unfold flushM
  cases U:s.left with
  |nil=>exact absurd U (o.a.f.ml h2)
  |cons a l=>
   have N:=h.m;rw[U]at N;refine⟨h.rd.same rfl rfl rfl rfl rfl λ_=>rfl,h.q,h.w,h.g,?_,h.w4,λe=>?_,λe=>absurd e Y,λe=>?_,h.nb⟩
   ·show s.took++(s.out++[a])++l=_;rw[<-N];simp
   ·have e:(if l.isEmpty then 1 else s.mph)=3:=e
    split at e
    ·cases e
    ·exact absurd e h3
   ·have e:(if l.isEmpty then 1 else s.mph)≠2:=e;show l=[]
    split at e
    ·rename_i V
     cases l with
     |nil=>rfl
     |cons a b=>cases V
    ·exact absurd h2 e
theorem CQ.offerE(h:CQ c fold wss text s)(X:EE c s)(Z:Fx s=true):CQ c fold wss text (offerE c s):=by
 have h2:s.eph≠2:=λe=>by unfold Fx at Z;rw[Vb e]at Z;cases Z
 unfold Proofs.YtaamacoicojhnaaGreat.offerE
 split
 ·rename_i ho
  have Y:s.mph=3:=by unfold Fx at Z;rw[Va h2]at Z;unfold IV at Z;rw[ho,X.a.f.en]at Z;exact Vc (by simpa using Z)
  exact⟨h.rd.same rfl rfl rfl rfl rfl λ_=>rfl,h.q,h.w,h.g,h.m,h.w4,h.m3,λ_=>⟨Y,ho⟩,h.m1,h.nb⟩
 ·rename_i a l ho
  have Y:=h.m;rw[ho]at Y
  split
  ·refine⟨h.rd.same rfl rfl rfl rfl rfl λ_=>rfl,h.q,h.w,h.g,?_,h.w4,h.m3,λe=>absurd e h2,h.m1,h.nb⟩;show s.took++[a]++l++s.left=_;rw[<-Y];simp
  ·exact⟨h.rd.same rfl rfl rfl rfl rfl λ_=>rfl,h.q,h.w,h.g,h.m,h.w4,h.m3,λe=>absurd e h2,h.m1,h.nb⟩
theorem CQ.step(h:CQ c fold wss text s)(U:Cg c fold wss text)(X:EE c s)(Y:s.cancelled=false)(Z:Bj c s k=true):CQ c fold wss text (Bi c s k):=by
 have V:¬s.cancelled=true:=by rw[Y];decide
 unfold Bj at Z;unfold Bi
 split at Z
 ·rw[Vb (by assumption)];exact h.stepR U X Y Z
 ·rw[Va (by assumption)]
  split at Z
  ·rw[Vb (by assumption)];obtain⟨x,N,h4⟩:=JH Z;exact h.stepW U X Y N Z
  ·rw[Va (by assumption)]
   split at Z
   ·rw[Vb (by assumption)];exact h.stepMg X Y Z
   ·rw[Va (by assumption)]
    split at Z
    ·unfold stepE;rw[Va V];exact h.offerE X Z
    ·cases Z
theorem aj3(rs:Lq):CQ c fold wss rs.flatten (Bn c rs):=by
 refine⟨akN rs c,(λb V=>by cases V),λi x Z=>?_,λi h X=>?_,rfl,λi x Z Y=>?_,(λe=>by cases e),(λe=>by cases e),λ_=>rfl,.inl rfl⟩
 ·have:=Ho (AX (show(List.replicate c.W (wk0 1))[i]?=some x from Z));rw[this];exact apf 1 (.inl rfl)
 ·have:=Ho (AX (show(List.replicate c.R none)[i]?=some (some h) from X))
  cases this
 ·have:=Ho (AX (show(List.replicate c.W (wk0 1))[i]?=some x from Z));rw[this]at Y
  cases Y
end
section
variable (c:CfM)(fold:Bool)(wss:Lq)(text:List Int)
def nbB:Nat:=(text.length+c.K - 1) / c.K
def slN(j:Nat):Nat:=((dtB c.K c.wm text j).length+c.S - 1) / c.S
def wgt(j:Nat):Nat:=slN c text j+2*(hB c fold wss text j).length
def GG(n:Nat):Nat:=(((List.range (nbB c text)).drop n).map λj=>6+wgt c fold wss text j).sum
def phR(s:PlM):Nat:=if s.rd.ph=1 then GG c fold wss text s.number+s.rs.length+3 else if s.rd.ph=2 then GG c fold wss text s.number+s.rs.length+2 else if s.rd.ph=3 then GG c fold wss text s.number+s.rs.length+1 else if s.rd.ph=4 then 1 else 0
def phQ(l:List Bc):Nat:=(l.map λb=>3+wgt c fold wss text b.num).sum
def Fb(x:WkM):Nat:=if x.ph=4 then 0 else if x.ph=1 then 1 else if x.ph=2 then 3+2*(hB c fold wss text x.blk.num).length+(slN c text x.blk.num - x.done / c.S) else 3+2*(hB c fold wss text x.blk.num).length
def JJ(l:List WkM):Nat:=(l.map (Fb c fold wss text)).sum
def phG(l:List (Option (List AF))):Nat:=(l.map λo=>match o with|none=>0|some h=>1+2*h.length).sum
def phE(s:PlM):Nat:=(if s.mph=3 then 0 else 1)+2*s.left.length+s.out.length+(if s.eph=2 then 0 else 1)
def BW(s:PlM):Nat:=phR c fold wss text s+phQ c fold wss text s.q+JJ c fold wss text s.wk+phG s.rg+phE s
end
section
variable {c:CfM}{fold:Bool}{wss:Lq}{text:List Int}{s t:PlM}{i k:Nat}{x:WkM}
theorem aiB(Z:1<=c.K)(j:Nat):j<nbB c text↔j*c.K<text.length:=by unfold nbB;have:=Nat.le_div_iff_mul_le (k:=c.K) (x:=j+1) (y:=text.length+c.K-1) om;rw[Nat.succ_mul]at this;omega
theorem aiM(Y:1<=c.K)(j:Nat)(h:j*c.K<text.length):GG c fold wss text j=6+wgt c fold wss text j+GG c fold wss text (j+1):=by
 have Z:=(aiB Y j).2 h;unfold GG;have e:(List.range (nbB c text)).drop j=j::(List.range (nbB c text)).drop (j+1):=by rw[List.drop_eq_getElem_cons (by rw[List.length_range];exact Z),List.getElem_range]
 rw[e,BO,List.sum_cons]
theorem apA{l:List WkM}(h:l[i]?=some x)(f:WkM->Nat)(g:WkM->WkM):((l.modify i g).map f).sum+f x=(l.map f).sum+f (g x):=by
 rw[amR h g]
 conv=>rhs;rw[amN h]
 simp only[Aj,BO,List.sum_append,List.sum_cons];omega
theorem anx{l:List (Option (List AF))}{j:Nat}(h:l[j]?=some none)(r:List AF):phG (l.set j (some r))=phG l+1+2*r.length:=by
 induction l generalizing j with
 |nil=>cases h
 |cons a l ih=>
  cases j with
  |zero=>
   cases AK h
   unfold phG;simp only[List.set_cons_zero,BO,List.sum_cons];omega
  |succ j=>
   have:=ih (j:=j) h;unfold phG at this⊢;simp only[List.set_cons_succ,BO,List.sum_cons];omega
theorem akG(l:List (Option (List AF))):phG (l++[none])=phG l:=by unfold phG;simp
theorem aoW(h:CQ c fold wss text s)(hx:Cg c fold wss text)(hP:EE c s)(hc:s.cancelled=false)(I:Ck c s=true):BW c fold wss text (stepR c s)+1<=BW c fold wss text s:=by
 have h5:s.rd.ph≠5:=λe=>by unfold Ck at I;rw[Vb e]at I;cases I
 have H:¬s.cancelled=true:=by rw[hc];decide
 have a6:=hP.a.r.ph;have hK:=hx.K;unfold stepR;rw[Va H];have Z:∀t:PlM,t.q=s.q->t.wk=s.wk->t.rg=s.rg->t.mph=s.mph->t.left=s.left->t.out=s.out->t.eph=s.eph->phR c fold wss text t+1<=phR c fold wss text s->BW c fold wss text t+1<=BW c fold wss text s:=λt B e2 C D N e6 e7 e8=>by unfold BW phE;rw[B,e2,C,D,N,e6,e7];omega
 split
 ·rename_i h1
  refine Z _ rfl rfl rfl rfl rfl rfl rfl ?_;unfold phR;rw[Vb h1];show(if(2:Nat)=1 then _ else if(2:Nat)=2 then GG c fold wss text s.number+s.rs.length+2 else _)+1<=_;rw[Va (by decide),Vb rfl];omega
 ·split
  ·rename_i X h2
   have hb:=h.rd.p2 h2;have ha:=h.rd.ah (.inl h2);unfold readR
   rcases(show s.rs=[]∨∃y l,s.rs=y::l by cases s.rs with|nil=>exact .inl rfl|cons x l=>exact .inr ⟨x,l,rfl⟩)with Y|⟨y,l,Y⟩
   ·rw[Vb (show s.rs.isEmpty=true by rw[Y];rfl)]
    split
    ·refine Z _ rfl rfl rfl rfl rfl rfl rfl ?_;unfold phR;rw[Va X,Vb h2];show(if(3:Nat)=1 then _ else if(3:Nat)=2 then _ else if(3:Nat)=3 then GG c fold wss text s.number+s.rs.length+1 else _)+1<=_;rw[Va (by decide),Va (by decide),Vb rfl];omega
    ·refine Z _ rfl rfl rfl rfl rfl rfl rfl ?_;unfold phR;rw[Va X,Vb h2];show(if(4:Nat)=1 then _ else if(4:Nat)=2 then _ else if(4:Nat)=3 then _ else if(4:Nat)=4 then 1 else _)+1<=_;rw[Va (by decide),Va (by decide),Va (by decide),Vb rfl];omega
   ·rw[Va (show ¬s.rs.isEmpty=true by rw[Y];simp)];have hm:(1:Int)<=(c.K:Int)-s.rd.own:=by omega
    obtain⟨j,U,V,o⟩:=aeq (x:=y) (l:=l) hm;have a7:s.rs.length=l.length+1:=by rw[Y];rfl
    rw[<-Y]at U V o;refine Z _ rfl rfl rfl rfl rfl rfl rfl ?_;unfold phR;rw[Va X,Vb h2];dsimp only
    by_cases A:s.rd.own+(BR ((c.K:Int)-s.rd.own) s.rs).length=c.K
    ·rw[Vb A,Va (by decide),Va (by decide),Vb rfl];omega
    ·rw[Va A,Va X,Vb h2]
     rcases V with V|V
     ·omega
     ·rw[V];omega
  ·split
   ·rename_i X U h3
    obtain⟨a1,a2,a3,a4,a5⟩:=h.rd.ah (.inr h3);obtain⟨b1,b2⟩:=h.rd.p3 h3;have a8:=h.rd.le;have hf:=aiM (fold:=fold) (wss:=wss) (text:=text) hK.1 s.number om;unfold BW phR;rw[Va X,Va U,Vb h3];have B:phQ c fold wss text (putR c s).q=phQ c fold wss text s.q+(3+wgt c fold wss text s.number):=by
     unfold phQ;show((s.q++[_]).map _).sum=_;rw[Aj,List.sum_append]
     rfl
    have e2:JJ c fold wss text (putR c s).wk=JJ c fold wss text s.wk:=rfl;have C:phG (putR c s).rg=phG s.rg:=rfl;have D:phE (putR c s)=phE s:=rfl;rw[B,e2,C,D,hf]
    rcases b2 with⟨J,v⟩|⟨J,v,q3⟩
    ·have N:(putR c s).rd.ph=1:=by show(if s.rd.ended then 4 else 1)=1;rw[J];rfl
     rw[Vb N];show GG c fold wss text (s.number+1)+s.rs.length+3+_+_+_+_+1<=_;omega
    ·have N:(putR c s).rd.ph=4:=by show(if s.rd.ended then 4 else 1)=4;rw[J];rfl
     rw[N,Va (by decide),Va (by decide),Va (by decide),Vb rfl];omega
   ·rename_i X U V
    have h4:s.rd.ph=4:=by omega
    refine Z _ rfl rfl rfl rfl rfl rfl rfl ?_;unfold phR;rw[Va X,Va U,Va V,Vb h4];exact AC 1
theorem aoT(h:CQ c fold wss text s)(C:Cg c fold wss text)(I:EE c s)(B:s.cancelled=false)(Y:s.wk[i]?=some x)(V:Er s i=true):BW c fold wss text (stepW c s i)+1<=BW c fold wss text s:=by
 have J:¬s.cancelled=true:=by rw[B];decide
 have hp:=I.a.r.wp _ x Y;have hW:=h.w i x Y;have h4:x.ph≠4:=λe=>by unfold Er at V;rw[Y]at V;dsimp only at V;rw[Vb e]at V;cases V
 unfold stepW;rw[Va J,Fc Y];have Z:∀(t:PlM)(f:WkM->WkM),t.wk=s.wk.modify i f->phR c fold wss text t=phR c fold wss text s->phE t=phE s->phQ c fold wss text t.q+Fb c fold wss text (f x)+phG t.rg+1<=phQ c fold wss text s.q+Fb c fold wss text x+phG s.rg->BW c fold wss text t+1<=BW c fold wss text s:=λt f e1 e2 H e4=>by unfold BW;rw[e1,e2,H];have:=apA Y (Fb c fold wss text) f;unfold JJ;omega
 split
 ·rename_i h1
  have X:Fb c fold wss text x=1:=by unfold Fb;rw[Va h4,Vb h1]
  unfold takeW
  cases o:s.q with
  |nil=>
   refine Z _ (λw=>{w with ph:=4}) rfl rfl rfl ?_;show phQ c fold wss text s.q+0+phG s.rg+1<=_;rw[X];omega
  |cons b l=>
   obtain⟨z1,A,z3⟩:=hW.1 h1;refine Z _ (λw=>{w with ph:=2,blk:=b}) rfl rfl rfl ?_;have e:Fb c fold wss text {x with ph:=2,blk:=b}=3+2*(hB c fold wss text b.num).length+(slN c text b.num - x.done / c.S):=rfl;have e2:phQ c fold wss text s.q=(3+wgt c fold wss text b.num)+phQ c fold wss text l:=by rw[o];rfl
   show phQ c fold wss text l+Fb c fold wss text {x with ph:=2,blk:=b}+phG s.rg+1<=_;rw[e,X,e2,A,Nat.zero_div];unfold wgt;omega
 ·rename_i D
  split
  ·rename_i h2
   have hB:=hW.2 (.inl h2);obtain⟨p1,m,p2⟩:=hB.p2 h2;have hS:=C.S;have X:Fb c fold wss text x=3+2*(Proofs.YtaamacoicojhnaaGreat.hB c fold wss text x.blk.num).length+(slN c text x.blk.num - x.done / c.S):=by unfold Fb;rw[Va h4,Va D,Vb h2]
   have j:x.done / c.S=m:=by rw[p2];exact Nat.mul_div_cancel _ om
   have N:x.blk.data.length=(dtB c.K c.wm text x.blk.num).length:=by rw[hB.b.dt]
   have v:m+1<=slN c text x.blk.num:=by unfold slN;rw[<-N,Nat.le_div_iff_mul_le om,Nat.succ_mul,<-p2];omega
   unfold scanW;refine Z _ _ rfl rfl rfl ?_;show phQ c fold wss text s.q+_+phG s.rg+1<=_;dsimp only;rw[X,j,hB.z,adP hB.b C x.done hB.d];dsimp only;have ht:Am x.blk.data.length x.done c.S=min c.S (x.blk.data.length-x.done):=by unfold Am;omega
   by_cases U:x.done+Am x.blk.data.length x.done c.S=x.blk.data.length
   ·rw[Vb (Ve U)];show phQ c fold wss text s.q+(3+2*(Proofs.YtaamacoicojhnaaGreat.hB c fold wss text x.blk.num).length)+_+1<=_;omega
   ·rw[Va (by simp[U]),h2];show phQ c fold wss text s.q+(3+2*(Proofs.YtaamacoicojhnaaGreat.hB c fold wss text x.blk.num).length+(slN c text x.blk.num - (x.done+Am x.blk.data.length x.done c.S) / c.S))+_+1<=_;have H:x.done+Am x.blk.data.length x.done c.S=(m+1)*c.S:=by rw[Nat.succ_mul,<-p2];omega
    rw[H,Nat.mul_div_cancel _ om];omega
  ·rename_i y
   have h3:x.ph=3:=by omega
   have hB:=hW.2 (.inr h3);obtain⟨p1,p2,p3,p4⟩:=(I.n B).place I.a.f.gl Y (.inr h3);have X:Fb c fold wss text x=3+2*(Proofs.YtaamacoicojhnaaGreat.hB c fold wss text x.blk.num).length:=by unfold Fb;rw[Va h4,Va D,Va y]
   unfold putWM;rw[Y];dsimp only;rw[Ly (s:={s with rg:=s.rg.set (x.blk.num-s.next) (some x.hits)}) Y];refine Z _ (λ_=>wk0 1) rfl rfl rfl ?_;show phQ c fold wss text s.q+1+phG (s.rg.set (x.blk.num-s.next) (some x.hits))+1<=_;rw[anx p4,X,hB.done h3];omega
theorem ap5(h:CQ c fold wss text s)(N:EE c s)(D:s.cancelled=false)(X:EX c s=true):BW c fold wss text (stepMg s)+1<=BW c fold wss text s:=by
 have V:¬s.cancelled=true:=by rw[D];decide
 have I:=N.a.r.mp;have h3:s.mph≠3:=λe=>by unfold EX at X;rw[Vb e]at X;cases X
 unfold stepMg;rw[Va V];have Z:∀t:PlM,phR c fold wss text t=phR c fold wss text s->t.q=s.q->t.wk=s.wk->phG t.rg+phE t+1<=phG s.rg+phE s->BW c fold wss text t+1<=BW c fold wss text s:=λt B e2 C y=>by unfold BW;rw[B,e2,C];omega
 split
 ·rename_i h1
  have Y:=h.m1 om;unfold takeM
  split
  ·rename_i U r H
   have J:phG s.rg=(1+2*U.length)+phG r:=by rw[H];rfl
   split
   ·refine Z _ rfl rfl rfl ?_;show phG (r++[none])+phE s+1<=_;rw[akG,J];omega
   ·refine Z _ rfl rfl rfl ?_;show phG (r++[none])+((if(2:Nat)=3 then 0 else 1)+2*U.length+s.out.length+(if s.eph=2 then 0 else 1))+1<=_;rw[akG,J,Va (by decide)];unfold phE;rw[Va h3,Y];simp only[Bw];omega
  ·refine Z _ rfl rfl rfl ?_;show phG s.rg+(0+2*s.left.length+s.out.length+(if s.eph=2 then 0 else 1))+1<=_;unfold phE;rw[Va h3];omega
 ·rename_i A
  have h2:s.mph=2:=by omega
  unfold flushM
  cases Y:s.left with
  |nil=>exact absurd Y (N.a.f.ml h2)
  |cons a l=>
   refine Z _ rfl rfl rfl ?_;have e:(if l.isEmpty then 1 else s.mph)≠3:=by split<;>omega
   unfold phE;dsimp only;rw[Va e,Va h3,Y,List.length_append,Ao,Ao,Bw];omega
theorem aoZ(X:EE c s)(Z:Fx s=true):(BW c fold wss text (offerE c s)+1<=BW c fold wss text s/\((offerE c s).off=s.off/\(offerE c s).tk=s.tk∨EH c.ans s.off=true/\(offerE c s).off=s.off+1/\(offerE c s).tk.length=s.tk.length+1))∨(EH c.ans s.off=false/\s.out≠[]/\offerE c s={s with off:=s.off+1}/\BW c fold wss text (offerE c s)=BW c fold wss text s):=by
 have h2:s.eph≠2:=λe=>by unfold Fx at Z;rw[Vb e]at Z;cases Z
 unfold offerE
 split
 ·rename_i ho
  refine .inl ⟨?_,.inl ⟨rfl,rfl⟩⟩;have e:phE {s with eph:=2}+1<=phE s:=by unfold phE;dsimp only;rw[Vb rfl,Va h2];omega
  show phR c fold wss text s+phQ c fold wss text s.q+JJ c fold wss text s.wk+phG s.rg+phE {s with eph:=2}+1<=_;unfold BW;omega
 ·rename_i a l ho
  cases Y:EH c.ans s.off with
  |false=>
   rw[Va (by decide)];exact .inr ⟨rfl,by rw[ho];simp,rfl,rfl⟩
  |true=>
   rw[Vb rfl];refine .inl ⟨?_,.inr ⟨rfl,rfl,by simp⟩⟩;show phR c fold wss text s+phQ c fold wss text s.q+JJ c fold wss text s.wk+phG s.rg+phE {s with off:=s.off+1,tk:=s.tk++[a],out:=l,took:=s.took++[a]}+1<=_;have e:phE {s with off:=s.off+1,tk:=s.tk++[a],out:=l,took:=s.took++[a]}+1=phE s:=by unfold phE;dsimp only;rw[ho,Ao];omega
   unfold BW;omega
theorem amy(k:Nat)(hk:k<=c.W+1):(Bi c s k).off=s.off/\(Bi c s k).tk=s.tk:=by
 have X:∀(s:PlM)(n:Nat),(Bv s n).off=s.off/\(Bv s n).tk=s.tk:=λs n=>⟨rfl,rfl⟩;have Y:∀(s:PlM)(i:Nat),(leaveW s i).off=s.off/\(leaveW s i).tk=s.tk:=λs i=>by unfold leaveW;split<;>exact⟨rfl,rfl⟩
 have Z:∀(s:PlM)(i:Nat),(takeW s i).off=s.off/\(takeW s i).tk=s.tk:=λs i=>by unfold takeW;split<;>exact⟨rfl,rfl⟩
 unfold Bi
 split
 ·unfold stepR stopR shutR takeR readR putR backR;dsimp only
  repeat' split
  all_goals exact⟨rfl,rfl⟩
 ·split
  ·unfold stepW
   split
   ·unfold stopW;dsimp only
    split<;>(try split)<;>first|exact Z _ _|exact⟨rfl,rfl⟩|exact Y _ _|exact⟨(Y _ _).1.trans (Z _ _).1,(Y _ _).2.trans (Z _ _).2⟩
   ·split
    ·exact Z _ _
    ·split
     ·exact⟨rfl,rfl⟩
     ·unfold putWM
      split
      ·exact⟨rfl,rfl⟩
      ·exact Y _ _
  ·rw[Vb om];unfold stepMg Hr takeM flushM
   repeat' split
   all_goals exact⟨rfl,rfl⟩
theorem aly(h:CQ c fold wss text s)(U:Cg c fold wss text)(X:EE c s)(Y:s.cancelled=false)(Z:Bj c s k=true):(BW c fold wss text (Bi c s k)+1<=BW c fold wss text s/\((Bi c s k).off=s.off/\(Bi c s k).tk=s.tk∨EH c.ans s.off=true/\(Bi c s k).off=s.off+1/\(Bi c s k).tk.length=s.tk.length+1))∨(EH c.ans s.off=false/\s.out≠[]/\Bi c s k={s with off:=s.off+1}/\BW c fold wss text (Bi c s k)=BW c fold wss text s):=by
 have V:¬s.cancelled=true:=by rw[Y];decide
 have ho:=amy (c:=c) (s:=s) k;unfold Bj at Z;unfold Bi at ho⊢
 split at Z
 ·rw[Vb (by assumption)]at ho⊢;exact .inl ⟨aoW h U X Y Z,.inl (ho om)⟩
 ·rw[Va (by assumption)]at ho⊢
  split at Z
  ·rw[Vb (by assumption)]at ho⊢;obtain⟨x,N,h4⟩:=JH Z;exact .inl ⟨aoT h U X Y N Z,.inl (ho om)⟩
  ·rw[Va (by assumption)]at ho⊢
   split at Z
   ·rw[Vb (by assumption)]at ho⊢;exact .inl ⟨ap5 h X Y Z,.inl (ho om)⟩
   ·rw[Va (by assumption)]at ho⊢
    split at Z
    ·unfold stepE;rw[Va V];exact aoZ X Z
    ·cases Z
theorem acY:∀(n m:Nat)(l:List (Option (List AF))),n<m->(Cj m l).count n=0
 |n,m,[],_=>rfl
 |n,m,none::l,h=>acY n (m+1) l om
 |n,m,some a::l,h=>by show(m::Cj (m+1) l).count n=0;rw[Ib,acY n (m+1) l om,Va om]
theorem aoB(h:CQ c fold wss text s)(hP:EE c s)(hc:s.cancelled=false)(U:OkC c)(he:II c s=[]):Fd s=true:=by
 have aa:¬s.cancelled=true:=by rw[hc];decide
 have hW:=U.W;have a2:=hP.a.f.wl;have I:∀t,t<c.W+3->Bj c s t=false:=λt ht=>by
  unfold II at he;rw[List.filter_eq_nil_iff]at he;have:=he t (List.mem_range.2 ht)
  cases hh:Bj c s t with
  |false=>rfl
  |true=>exact absurd hh this
 have hN:=hP.n hc;have V:Ck c s=false:=by have:=I 0 om;unfold Bj at this;rw[Vb rfl]at this;exact this
 have a1:∀i,i<c.W->Er s i=false:=λi hi=>by have:=I (i+1) om;unfold Bj at this;rw[Va om,Vb om,Jl]at this;exact this
 have v:EX c s=false:=by have:=I (c.W+1) om;unfold Bj at this;rw[Va om,Va om,Vb rfl]at this;exact this
 have C:Fx s=false:=by have:=I (c.W+2) om;unfold Bj at this;rw[Va om,Va om,Va om,Vb rfl]at this;exact this
 have hE:s.eph=2∨s.out=[]/\s.ended=false:=by
  unfold Fx at C
  split at C
  ·exact .inl (by assumption)
  ·unfold IV at C;rw[Bool.or_eq_false_iff]at C;refine .inr ⟨?_,C.2⟩
   cases ho:s.out with
   |nil=>rfl
   |cons a l=>rw[ho]at C;cases C.1
 have hM:s.mph=3∨s.mph=1/\Gt s=false:=by
  have ab:=hP.a.r.mp;unfold EX at v
  split at v
  ·exact .inl (by assumption)
  ·split at v
   ·exact .inr ⟨by assumption,v⟩
   ·have Y:=of_decide_eq_false v
    exfalso
    have ho:s.out=[]:=hE.elim (λe=>(h.e2 e).2) λe=>e.1;rw[ho]at Y;have hO:=U.O;simp at Y;omega
 have B:∀(i:Nat)(x:WkM),s.wk[i]?=some x->x.ph=4∨x.ph=1/\Ep s=false:=λi x H=>by
  have:=a1 i (by rw[<-a2];exact(AP.1 H).1);unfold Er at this;rw[H]at this;dsimp only at this
  split at this
  ·exact .inl (by assumption)
  ·split at this
   ·exact .inr ⟨by assumption,this⟩
   ·cases this
 obtain⟨x0,N⟩:∃x,s.wk[0]?=some x:=⟨s.wk[0]'om,by simp⟩;have A:s.wk.flatMap Proofs.YtaamacoicojhnaaGreat.hW=[]:=by
  rw[List.flatMap_eq_nil_iff];intro x H;obtain⟨i,hi⟩:=DR H;unfold Proofs.YtaamacoicojhnaaGreat.hW;rw[Va]
  rcases B i x hi with e|e<;>omega
 have X:s.q=[]->s.next<s.number->∃a l,s.rg=some a::l:=λy Y=>by
  have:=hN.cnt s.next;rw[Ea,y,A,Vb ⟨AC _,Y⟩]at this;simp only[DE,Iw,DD]at this
  cases j:s.rg with
  |nil=>rw[j]at this;cases this
  |cons o l=>
   cases o with
   |some a=>exact⟨a,l,rfl⟩
   |none=>
    rw[j]at this;have e:(Cj s.next (none::l)).count s.next=0:=acY s.next (s.next+1) l om;omega
 have Z:∀a l,s.rg=some a::l->Gt s=true:=λa l e=>by unfold Gt;rw[e];rfl
 by_cases h5:s.rd.ph=5
 ·have a6:Ep s=true:=by unfold Ep;rw[hP.a.f.shu,Ve h5,Bool.or_true]
  have D:∀(i:Nat)(x:WkM),s.wk[i]?=some x->x.ph=4:=λi x H=>(B i x H).elim id λe=>by rw[a6]at e;cases e.2
  have y:=(h.w4 0 x0 N (D 0 x0 N)).2;have h3:s.mph=3:=hM.elim id λe=>by
   exfalso
   by_cases Y:s.next<s.number
   ·obtain⟨a,l,hg⟩:=X y Y;rw[Z a l hg]at e
    cases e.2
   ·have:=hN.le;have e2:=e.2;unfold Gt at e2;rw[Ve h5,Ve (show s.next=s.number by omega)]at e2;simp at e2
  have h2:s.eph=2:=hE.elim id λe=>by
   have:=hP.a.f.en;rw[e.2,Ve h3]at this
   cases this
  unfold Fd;rw[Ve h5,Ve h3,Ve h2,Bool.and_true,Bool.and_true,FJ,List.all_eq_true];intro x H;obtain⟨i,hi⟩:=DR H;exact Ve (D i x hi)
 ·exfalso
  have J:Ep s=false:=(B 0 x0 N).elim (λe=>absurd (h.w4 0 x0 N e).1 h5) λe=>e.2;have y:s.q=[]:=by
   unfold Ep at J;rw[Bool.or_eq_false_iff]at J
   cases a7:s.q with
   |nil=>rfl
   |cons a l=>rw[a7]at J;cases J.1
  unfold Ck at V;rw[Va h5,Va aa]at V
  split at V
  ·unfold Du at V;have a8:=hN.le;rw[Ve a8.1,FJ]at V;have:=of_decide_eq_false V;have hR:=U.R;obtain⟨a,l,hg⟩:=X y om
   rcases hM with e|e
   ·exact h5 (h.m3 e).1
   ·rw[Z a l hg]at e
    cases e.2
  ·split at V
   ·have h9:=of_decide_eq_false V;rw[y]at h9;have hQ:=U.Q;simp at h9;omega
   ·cases V
end
theorem abN{S:Nat}(U:1<=S)(a:Nat):(((a+S - 1) / S:Nat):Int)=CK S a:=by
 have e:=Nat.div_add_mod a S;have X:=Ek a (show S > 0 by omega);obtain⟨q,Y⟩:∃q,a / S=q:=⟨_,rfl⟩;obtain⟨r,Z⟩:∃r,a % S=r:=⟨_,rfl⟩;rw[Y,Z]at e;rw[Z]at X;have V:CK S a=(q:Int)+if 0<r then 1 else 0:=by
  unfold CK;rw[<-Int.natCast_ediv,<-Int.natCast_emod,Y,Z]
  by_cases h0:0<r
  ·rw[Vb h0,Vb om]
  ·rw[Va h0,Va om]
 rw[V,<-e]
 by_cases h0:0<r
 ·rw[Vb h0,show S*q+r+S-1=(r-1)+S*(q+1) by rw[Nat.mul_succ];omega,Nat.add_mul_div_left _ _ om,Nat.div_eq_of_lt om];omega
 ·rw[Va h0,show S*q+r+S-1=(S-1)+S*q by omega,Nat.add_mul_div_left _ _ om,Nat.div_eq_of_lt om];omega
section
variable {c:CfM}{fold:Bool}{wss:Lq}{text:List Int}{s t:PlM}{i k:Nat}{x:WkM}
theorem agM(Z:Cg c fold wss text)(j:Nat)(X:j*c.K<text.length):((slN c text j:Nat):Int)=CK c.S (wI c.L c.K j+min (c.K:Int) ((text.length:Int)-(j:Int)*c.K)):=by
 have U:=Z.L;have V:c.wm=c.L-1:=rfl;unfold slN;rw[abN Z.S.1,afl];congr 1;unfold wI;obtain⟨P,Y⟩:∃P,j*c.K=P:=⟨_,rfl⟩;have e:(j:Int)*(c.K:Int)=(P:Int):=by rw[<-Y];simp
 rw[e];rw[Y]at X⊢;omega
theorem aiR(Y:Cg c fold wss text):∀i,i<=((text.length:Int) / c.K).toNat->((((List.range i).map (slN c text)).sum:Nat):Int)=Eo c.L c.K c.S i
 |0,_=>rfl
 |i+1,h=>by
  have H:=Y.K;have Z:=(aaX (B:=(c.K:Int)) (y:=(text.length:Int)) om om).1;obtain⟨q,N⟩:∃q,((text.length:Int) / c.K).toNat=q:=⟨_,rfl⟩;have J:=IO c.K (show i+1<=q by omega);have U:((q*c.K:Nat):Int)<=text.length:=by rw[N]at Z;simpa using Z
  rw[Nat.succ_mul]at J;have I:i*c.K<text.length:=by omega
  have V:=aiR Y i om;have X:=agM Y i I;have e:(i:Int)*(c.K:Int)=((i*c.K:Nat):Int):=by simp
  rw[e,show min (c.K:Int) ((text.length:Int)-((i*c.K:Nat):Int))=c.K by omega]at X;rw[El,Aj,List.sum_append];show((((List.range i).map (slN c text)).sum+(slN c text i+0):Nat):Int)=Eo c.L c.K c.S i+CK c.S (wI c.L c.K i+c.K);rw[<-V,<-X];omega
theorem abs(Z:Cg c fold wss text):((nbB c text:Nat):Int)=CK c.K text.length:=abN Z.K.1 _
theorem ajw(Y:Cg c fold wss text):((((List.range (nbB c text)).map (slN c text)).sum:Nat):Int)=EA c.L c.K c.S text.length:=by
 have D:=Y.K;have X:=aiR Y _ (AC _);have Z:=abs Y;have H:=λj=>aiB (text:=text) D.1 j;have U:=Int.mul_ediv_add_emod (text.length:Int) (c.K:Int);have B:0<=(text.length:Int) % c.K:=Int.emod_nonneg _ om;have m1:(text.length:Int) % c.K<c.K:=Int.emod_lt_of_pos _ om;have C:0<=(text.length:Int) / c.K:=Int.ediv_nonneg om om;unfold EA;unfold CK at Z;obtain⟨q,I⟩:∃q:Nat,(text.length:Int) / c.K=q:=⟨((text.length:Int) / c.K).toNat,by omega⟩;obtain⟨r,J⟩:∃r:Nat,(text.length:Int) % c.K=r:=⟨((text.length:Int) % c.K).toNat,by omega⟩;rw[I]at X Z U⊢;rw[J]at Z U m1⊢;simp only[Aa]at X⊢;have e:(c.K:Int)*(q:Int)=((q*c.K:Nat):Int):=by rw[Int.mul_comm];simp
 rw[e]at U
 by_cases h0:0<(r:Int)
 ·rw[Vb h0]at Z⊢;have V:nbB c text=q+1:=by omega
  have N:=agM Y q om;have e2:(q:Int)*(c.K:Int)=((q*c.K:Nat):Int):=by simp
  rw[e2,show min (c.K:Int) ((text.length:Int)-((q*c.K:Nat):Int))=r by omega]at N;rw[V,El,Aj,List.sum_append];show((((List.range q).map (slN c text)).sum+(slN c text q+0):Nat):Int)=_;rw[<-X,<-N];omega
 ·rw[Va h0]at Z⊢;have V:nbB c text=q:=by omega
  rw[V,X];omega
theorem Ob(f g:Nat->Nat):∀l:List Nat,(l.map λj=>f j+g j).sum=(l.map f).sum+(l.map g).sum
 |[]=>rfl
 |a::l=>by simp only[BO,List.sum_cons];rw[Ob f g l];omega
theorem abz:∀l:List Nat,(l.map λ_=>6).sum=6*l.length
 |[]=>rfl
 |a::l=>by simp only[BO,List.sum_cons,Ao];rw[abz l];omega
theorem abi(f:Nat->Nat):∀l:List Nat,(l.map λj=>2*f j).sum=2*(l.map f).sum
 |[]=>rfl
 |a::l=>by simp only[BO,List.sum_cons];rw[abi f l];omega
theorem ams(Z:Cg c fold wss text):(nbB c text=0∨(nbB c text-1)*c.K<text.length)/\text.length<=nbB c text*c.K:=by
 have h:=λj=>aiB (text:=text) Z.K.1 j
 constructor
 ·by_cases h0:nbB c text=0
  ·exact .inl h0
  ·exact .inr ((h _).1 om)
 ·have:=(h (nbB c text));omega
theorem aoi(Z:Cg c fold wss text):((List.range (nbB c text)).map λj=>(hB c fold wss text j).length).sum=(EL fold wss (c.F:Int) text).length:=by obtain⟨h1,h2⟩:=ams Z;rw[<-aoe Z _ h1 h2,List.length_flatMap]
theorem ajj(Z:Cg c fold wss text)(rs:Lq)(J:rs.flatten=text):((BW c fold wss text (Bn c rs):Nat):Int)=6*Cz text.length c.K+rs.length+c.W+EA c.L c.K c.S text.length+2*(EL fold wss (c.F:Int) text).length+5:=by
 have h1:=ajw Z;have h2:=aoi Z;have h3:=abs Z;rw[agQ om (by have:=Z.K;omega),<-h3,<-h1];have N:GG c fold wss text 0=6*nbB c text+((List.range (nbB c text)).map (slN c text)).sum+2*(EL fold wss (c.F:Int) text).length:=by unfold GG wgt;rw[List.drop_zero,Ob (λ_=>6),Ob (slN c text),abz,List.length_range,abi,h2];omega
 have e2:JJ c fold wss text (Bn c rs).wk=c.W:=by show((List.replicate c.W (wk0 1)).map (Fb c fold wss text)).sum=c.W;rw[List.map_replicate,List.sum_replicate_nat];show c.W*1=c.W;omega
 have U:phG (Bn c rs).rg=0:=by show((List.replicate c.R none).map _).sum=0;rw[List.map_replicate,List.sum_replicate_nat];show c.R*0=0;omega
 have V:phR c fold wss text (Bn c rs)=GG c fold wss text 0+rs.length+3:=rfl;have X:phQ c fold wss text (Bn c rs).q=0:=rfl;have Y:phE (Bn c rs)=2:=rfl;unfold BW;rw[e2,U,V,X,Y,N];omega
def Ot(s:PlM):Prop:=s.told=s.read/\s.rd.ahead<=s.read
theorem Ot.step(h:Ot s)(k:Nat):Ot (Bi c s k):=by
 have Y:∀(s:PlM)(i:Nat),Ot s->Ot (leaveW s i):=λs i h=>by unfold leaveW;split<;>exact h
 have Z:∀(s:PlM)(i:Nat),Ot s->Ot (takeW s i):=λs i h=>by unfold takeW;split<;>exact h
 unfold Bi
 split
 ·unfold stepR
  split
  ·unfold stopR shutR
   split<;>exact h
  ·split
   ·exact⟨h.1,AC _⟩
   ·split
    ·unfold readR;dsimp only
     split
     ·split<;>exact h
     ·refine⟨?_,?_⟩
      ·show s.told+_=s.read+_;rw[h.1]
      ·show s.rd.ahead<=s.read+_;have:=h.2;omega
    ·split<;>exact h
 ·split
  ·unfold stepW
   split
   ·unfold stopW;dsimp only
    split<;>split<;>first|exact Z _ _ h|exact h|exact Y _ _ (Z _ _ h)|exact Y _ _ h
   ·split
    ·exact Z _ _ h
    ·split
     ·exact h
     ·unfold putWM
      split
      ·exact h
      ·exact Y _ _ h
  ·split
   ·unfold stepMg Hr takeM flushM
    repeat' split
    all_goals exact h
   ·unfold stepE Fr offerE
    repeat' split
    all_goals exact h
theorem apS{H D n L:Nat}(V:OkC c)(J:EE c s)(Y:BJ c H D n s)(I:Aq c L s)(y:Ot s)(B:s.read<=1000000)(hn:n<=900000)(a2:H*D<=1000000)(hL:L<=1000000)(hH:ML c H D):OkM c s:=by
 have U:=J.a.r;have X:=J.a.f;have hB:=J.b;have w1:=V.W;have w2:=V.K;have w3:=V.R;have w4:=V.O;have w5:=V.F;have w6:=V.wm;have g1:=Y.num;have g2:=Y.nxt;have g3:=B;have g4:=y.1;have g5:=Y.off;have g6:=Y.tk;have g7:=Y.took;have g8:=y.2;have N:=hB.perm.length_eq;rw[List.length_append,List.length_range]at N;have a1:=X.ol;refine⟨X.wl,X.gl,by omega,λx Z=>(AP.1 (hB.uf x Z)).1,by rw[hB.dl,hB.ul],by omega,by omega,by omega,by omega,λr hr=>AS (I.rsb r hr).2 hL,I.tal.1,by omega,by omega,by omega,by omega,U.ph,by omega,λh1 h2 h3=>hB.free (J.n h2) U h1 h3,λC=>?_,λh5=>by rw[X.shu,decide_eq_false h5],λi x Z=>?_,λi x Z C A=>?_,U.mp,λh1 _=>X.ml h1,λh3=>by rw[X.en,decide_eq_false h3],U.ep⟩
 ·obtain⟨v,q1,q2,q3,j,o⟩:=I.buf C;refine⟨v,hB.ut _ ?_,q1,q2,q3,j,o⟩;unfold Cu;rw[KG (U.ho.2 C)];simp
 ·have h1:=U.wp i x Z;have h2:=I.wd i x Z;have h3:=Y.hit i x Z;have h4:=hH x.blk.start x.blk.warm x.blk.data x.node x.done (I.wd i x Z) (Y.hit i x Z).2;have e:H*x.done+H*((c.scan x.blk.start x.blk.warm x.blk.data x.node x.done).2.1-x.done)=H*(c.scan x.blk.start x.blk.warm x.blk.data x.node x.done).2.1:=by rw[<-Nat.mul_add];congr 1;omega
  have e2:=Nat.mul_le_mul_left H h4.2.1;exact⟨h1.1,h1.2,by omega,λ_=>by omega⟩
 ·obtain⟨p1,p2,p3,p4⟩:=(J.n A).place X.gl Z (.inr C);exact⟨p1,p3,p4,by omega⟩
end
theorem ahO(c:CfM)(fold:Bool)(a:Option Addr)(J B:Nat)(b:Option Addr)(n j:Nat)(d:Option Addr)(m cd:Nat)(wss Z:Lq)(w:World)(hA:Wds w a J wss)(hR:Wds w b n Z)
  (hr:An fold wss=true) (a8:J<=1000) (hM:∀x∈wss,x.length<=1000000) (hL:Au wss=(c.L:Int)) (ag:1<=c.L/\c.L<=32) (y:Ce c.W c.K c.R c.Q c.O c.S c.F=true) (hn:n<=1000) (hl:Z.flatten.length<=1000) (hH:(EL fold wss (c.F:Int) Z.flatten).length<=2000000000) (N:Nat) (hN:(N:Int)=6*Cz Z.flatten.length c.K+Z.length+c.W+EA c.L c.K c.S Z.flatten.length+2*(EL fold wss (c.F:Int) Z.flatten).length+5) :
  Calls ZP 15 #[.agg (DS fold a J B c.W c.K c.R c.Q c.O c.S c.F c.br b n j d m cd)] w λe w'=>e=.returned (int i64 (N:Int))/\Br w w':=by
 obtain⟨W,hW⟩:∃W,W=w.alloc (.cells (DS fold a J B c.W c.K c.R c.Q c.O c.S c.F c.br b n j d m cd) 29):=⟨_,rfl⟩;have U:Br w W:=by rw[hW];exact(AH _ _).alloc (AC _) _
 have hO:Bx w.heap.size [.cells (DS fold a J B c.W c.K c.R c.Q c.O c.S c.F c.br b n j d m cd) 29] W:=by rw[hW];exact(Bx.nil _ w).snoc _ rfl
 have X:Hid (∀V,Br W V->V.cell? ⟨w.heap.size,0,none⟩=some (bool fold)/\V.cell? ⟨w.heap.size,1,none⟩=some (slice a J B)/\V.cell? ⟨w.heap.size,2,none⟩=some (int i64 c.W)/\V.cell? ⟨w.heap.size,3,none⟩=some (int i64 c.K)/\V.cell? ⟨w.heap.size,4,none⟩=some (int i64 c.R)/\V.cell? ⟨w.heap.size,5,none⟩=some (int i64 c.Q)/\V.cell? ⟨w.heap.size,6,none⟩=some (int i64 c.O)/\V.cell? ⟨w.heap.size,7,none⟩=some (int i64 c.S)/\V.cell? ⟨w.heap.size,8,none⟩=some (int i64 c.F)/\V.cell? ⟨w.heap.size,10,none⟩=some (slice b n j)):=λV hV=>by have h:=hO.below hV;exact⟨h.cell (i:=0) rfl rfl,h.cell (i:=0) rfl rfl,h.cell (i:=0) rfl rfl,h.cell (i:=0) rfl rfl,h.cell (i:=0) rfl rfl,h.cell (i:=0) rfl rfl,h.cell (i:=0) rfl rfl,h.cell (i:=0) rfl rfl,h.cell (i:=0) rfl rfl,h.cell (i:=0) rfl rfl⟩
 have af:=Gi.1 y;have a7:Z.length=n:=hR.len;have C:KZ fold wss (c.F:Int)=true:=by unfold KZ;rw[hr,Bool.and_true];exact Ve om
 obtain⟨T,hT⟩:∃T,Z.flatten=T:=⟨_,rfl⟩;obtain⟨H,o⟩:∃H,(EL fold wss (c.F:Int) Z.flatten).length=H:=⟨_,rfl⟩;obtain⟨Y,hY⟩:∃Y,Z.flatten.length=Y:=⟨_,rfl⟩;have k1:Hid (Calls ZP 12 #[slice b n j] W λe w'=>∃(I:Option Addr)(c1:Nat),e=.returned (slice I Y c1)/\Y<=c1/\Bys w' I Y T/\Br W w'):=by have:=act b n j Z W (hR.below U) om om;rw[hT]at this hY;rw[hY]at this;exact this
 have k2:Hid (∀V I c1,Br W V->Bys V I Y T->Y<=c1->Calls ZP 56 #[.agg (AM fold a J B),int i64 c.F,slice I Y c1] V λe w'=>∃a2 c2,e=.returned (.tuple #[slice a2 H c2,int i64 0])/\Br V w'):=λV I c1 hV hs hc=>by refine(alV fold a I J B Y c1 (c.F:Int) T wss V ((hA.below U).below hV) hs a8 om hc hM C).mono ?_;rintro e w' ⟨v,rfl,ho,hb⟩;obtain⟨a2,c2,rfl,_,_⟩:=SlK.own ho;rw[<-hT,o];exact⟨a2,c2,rfl,hb⟩
 have k3:Hid (∀V,Br W V->Calls ZP 57 #[.agg (AM fold a J B)] V λe w'=>e=.returned (int i64 c.L)/\Br V w'):=λV hV=>by have:=aga fold a J B wss V ((hA.below U).below hV) om;rw[hL]at this;exact this
 have k4:Hid (∀V,Calls ZP 49 #[.agg (Ee c.W c.K c.R c.Q c.O c.S c.F),int i64 c.L,int i64 (Y:Int),int i64 (n:Int),int i64 (H:Int)] V λe w'=>e=.returned (.tuple #[int i64 (N:Int),int i64 0])/\Br V w'):=λV=>by
  have:=Og c.W c.K c.R c.Q c.O c.S c.F c.L Y n H V;have e1:IS c.W c.K c.R c.Q c.O c.S c.F c.L Y n H=true:=by unfold IS FY btw;rw[y];simp;omega
  unfold Hs Ht at this;rw[Vb e1,Vb e1]at this;rw[hY,o,a7]at hN;rw[<-hN]at this;exact this
 have HB:=AA U;have n1:(0:Int)<=(n:Int):=by omega
 obtain⟨q0,q1,q2,q3,q4,q5,q6,q7,q8,A⟩:=X.out W (AH _ _);clear hA hR hr a8 hM hL y hl hO U af C hT o hY hH hN a7;go_enter func15,ntmps15;go_upto_region 1 with fail
 rw[<-hW];clear hW
 go_wp2_with fail
 refine k1.out.mono ?_;rintro e w1 ⟨I,c1,rfl,aa,a6,s⟩;have X1:=AA s;have K2:=AA (k2.out w1 I c1 s a6 aa);clear q0 q1 q2 q3 q4 q5 q6 q7 q8 A s k1 k2 a6 aa;obtain⟨q0,q1,q2,q3,q4,q5,q6,q7,q8,A⟩:=X.out w1 X1.out
 go_wp2_with fail
 refine K2.out.mono ?_;rintro e w2 ⟨a2,c2,rfl,ae⟩;have X2:=AA (X1.out.trans (ae.mono X1.out.size));clear q0 q1 q2 q3 q4 q5 q6 q7 q8 A ae K2;go_upto_region 3 with fail
 obtain⟨D,hD⟩:∃D,D=w2.drew:=⟨_,rfl⟩;have XD:Hid (Br W D):=by rw[Hid,hD];exact X2.out.trans ((AN w2 1).mono X2.out.size)
 refine Vh ?_;refine Vg (S:=λV=>Br W V) kr (by rw[<-hD];exact XD.out) (λhHeld=>?_);rw[<-hD];clear hD;refine tkB 0 X.out ?_;refine tkB 1 X.out ?_;refine tkB 2 X.out ?_;refine tkB 3 X.out ?_;refine tkB 5 X.out ?_;refine tkB 6 X.out ?_;refine tkB 7 X.out ?_;refine tkB 8 X.out ?_;refine tkB 9 X.out ?_;refine tkB 10 X.out ?_;refine tkB 11 X.out ?_;have K3:=AA (k3.out D XD.out);refine rdy 4 (λK hK=>?_);go_simp
 go_at_call 57;refine K3.out.mono ?_;rintro e w3 ⟨rfl,ac⟩
 have X3:=AA (XD.out.trans (ac.mono XD.out.size));clear ac;refine hK.out _ _ X3.out (λ_=>?_);clear hK K
 try simp only[pq]
 have K4:=AA (k4.out w3);refine rdy 12 (λK hK=>?_);go_simp
 go_at_call 49;refine K4.out.mono ?_;rintro e w4 ⟨rfl,ab⟩
 have X4:=AA (X3.out.trans (ab.mono X3.out.size));clear ab;refine hK.out _ _ X4.out (λ_=>?_);clear hK K
 try simp only[pq]
 refine tkA 13 ?_;refine tkA 14 ?_;refine tkA 15 ?_;refine tkA 16 ?_;refine tkA 17 ?_;refine Vj kr ?_ _;refine At ?_;go_wp2;go_ret;exact⟨rfl,HB.out.trans (X4.out.mono HB.out.size)⟩
theorem aiq{fold:Bool}{wss Z:Lq}{wk bl rg X V Y fr:Int}{m:Nat}(br:Bool)(ans:List Bool)(h:GV fold wss wk bl rg X V Y fr Z m=true):∃c:CfM,wk=c.W/\bl=c.K/\rg=c.R/\X=c.Q/\V=c.O/\Y=c.S/\fr=c.F/\c.br=br/\c.ans=ans/\Au wss=(c.L:Int)/\1<=c.L/\c.L<=32/\(∀y∈wss,y.length<=c.L)/\c.scan=scF fold wss c.S:=by obtain⟨_,p2,p3,_⟩:=abc h;obtain⟨W,K,R,Q,O,S,F,h1,h2,h3,h4,h5,h6,h7⟩:=amg p3;obtain⟨M,I,J,N,U⟩:=aiO p2;exact⟨⟨W,K,R,Q,O,S,F,M,scF fold wss S,br,ans⟩,h1,h2,h3,h4,h5,h6,h7,rfl,rfl,I,N,U,J,rfl⟩
section
variable {c:CfM}{fold:Bool}{wss:Lq}{text:List Int}{s:PlM}{D L N i:Nat}
theorem apN{ans:List Bool}(Z:ans=[]∨true∈ans)(off:Nat):∃d,d+1<=max ans.length 1/\EH ans (off+d)=true:=by
 rcases Z with rfl|Z
 ·exact⟨0,by simp,rfl⟩
 ·obtain⟨y,Z⟩:=DR Z;have X:=(AP.1 Z).1;have V:=Ek off (show ans.length > 0 by omega);obtain⟨r,Y⟩:∃r,off % ans.length=r:=⟨_,rfl⟩;rw[Y]at V;have J:∃d,d<ans.length/\(off+d) % ans.length=y:=by
   by_cases U:r<=y
   ·refine⟨y-r,by omega,?_⟩;rw[Nat.add_mod,Y,Nat.mod_eq_of_lt (show y-r<ans.length by omega),show r+(y-r)=y by omega,Nat.mod_eq_of_lt X]
   ·refine⟨y+ans.length-r,by omega,?_⟩;rw[Nat.add_mod,Y,Nat.mod_eq_of_lt (show y+ans.length-r<ans.length by omega),show r+(y+ans.length-r)=y+ans.length by omega,Nat.add_mod_right,Nat.mod_eq_of_lt X]
  obtain⟨d,h1,h2⟩:=J;refine⟨d,by omega,?_⟩;unfold EH;rw[h2,DZ,Z];simp
structure OvX(c:CfM)(fold:Bool)(wss:Lq)(text:List Int)(D L f N i:Nat)(s:PlM):Prop where
 p:EE c s
 g:BJ c 400 D i s
 d:Aq c L s
 h:Ot s
 x:CQ c fold wss text s
 nc:s.cancelled=false
 m:∃e,e+1<=f/\EH c.ans (s.off+e)=true/\f*BW c fold wss text s+e+i+1<=f*N+f
theorem OvX.ok{f:Nat}(h:OvX c fold wss text D L f N i s)(Y:Cg c fold wss text)(Z:OkC c)(X:i<=900000)(J:400*D<=1000000)(V:L<=1000000)(U:ML c 400 D):OkM c s:=apS Z h.p h.g h.d h.h (by have:=h.x.rd.le;have:=Y.len;omega) X J V U
theorem OvX.pick{f:Nat}(h:OvX c fold wss text D L f N i s)(U:Cg c fold wss text)(V:OkC c)(B:ML c 400 D)(hf:f=max c.ans.length 1)(H:c.ans=[]∨true∈c.ans)(ho:Fd s=false)(z:Int):∃k,EZ c s z=some k/\OvX c fold wss text D L f N (i+1) (Fi c s z):=by
 have J:II c s≠[]:=λe=>by have:=aoB h.x h.p h.nc V e;rw[ho]at this;cases this
 obtain⟨k,hk⟩:=apO J z;refine⟨k,hk,?_⟩;have Y:=(aaO hk).2;have o:Fi c s z=Bi c s k:=by unfold Fi;rw[hk]
 rw[o];obtain⟨e,v,e2,e3⟩:=h.m;refine⟨h.p.step Y,h.g.step U.K.2 (λi x Z=>B _ _ _ _ _ (h.d.wd i x Z) (h.g.hit i x Z).2) Y,h.d.step h.p Y,h.h.step k,h.x.step U h.p h.nc Y,by rw[ae3];exact h.nc,?_⟩
 rcases aly h.x U h.p h.nc Y with⟨h1,h2⟩|⟨h1,h2,h3,h4⟩
 ·obtain⟨q,C⟩:∃q,BW c fold wss text (Bi c s k)=q:=⟨_,rfl⟩;rw[C]at h1⊢;have X:=Nat.mul_le_mul_left f h1;rw[Nat.mul_succ]at X
  rcases h2 with⟨I,A⟩|⟨_,I,A⟩
  ·exact⟨e,v,by rw[I];exact e2,by omega⟩
  ·obtain⟨d,d1,j⟩:=apN H (Bi c s k).off;exact⟨d,by omega,j,by omega⟩
 ·rw[h4];have he:e≠0:=λy=>by rw[y,DQ,h1]at e2;cases e2
  refine⟨e-1,by omega,?_,by omega⟩;rw[h3];show EH c.ans (s.off+1+(e-1))=true;rw[show s.off+1+(e-1)=s.off+e by omega];exact e2
theorem apR(U:EE c s)(h:BW c fold wss text s=0):Fd s=true:=by
 unfold BW at h;have V:=U.a.r.ph;have h1:s.rd.ph=5:=by
  have:phR c fold wss text s=0:=by omega
  unfold phR at this
  split at this
  ·omega
  ·split at this
   ·omega
   ·split at this
    ·omega
    ·split at this
     ·omega
     ·omega
 have h2:phE s=0:=by omega
 unfold phE at h2;have h3:s.mph=3:=Md λe=>by rw[Va e]at h2;omega
 have h4:s.eph=2:=Md λe=>by rw[Va e]at h2;omega
 have h5:JJ c fold wss text s.wk=0:=by omega
 unfold Fd;rw[Ve h1,Ve h3,Ve h4,Bool.and_true,Bool.and_true,FJ,List.all_eq_true];intro x Y;unfold JJ at h5;have h6:Fb c fold wss text x=0:=by
  have:∀l:List Nat,l.sum=0->∀y∈l,y=0:=λl=>by
   induction l with
   |nil=>intro _ y Z;cases Z
   |cons a l ih=>
    intro X y Z;rw[List.sum_cons]at X
    rcases CR.1 Z with rfl|Z
    ·omega
    ·exact ih om y Z
  exact this _ h5 _ (List.mem_map_of_mem Y)
 unfold Fb at h6;refine Ve (Md λe=>?_);rw[Va e]at h6
 split at h6
 ·omega
 ·split at h6<;>omega
theorem OvX.end{f:Nat}(h:OvX c fold wss text D L f N i s)(Y:f*N<=i):Fd s=true:=by obtain⟨e,V,e2,X⟩:=h.m;refine apR (fold:=fold) (wss:=wss) (text:=text) h.p (Md λZ=>?_);have:=Nat.mul_le_mul_left f (show 1<=BW c fold wss text s by omega);omega
theorem OvX.new(I:Cg c fold wss text)(Z:OkC c){f:Nat}(C:f=max c.ans.length 1)(Y:c.ans=[]∨true∈c.ans)(rs:Lq)(X:rs.flatten=text)(V:∀r∈rs,FS r/\r.length<=L)(U:BW c fold wss text (Bn c rs)=N):OvX c fold wss text D L f N 0 (Bn c rs):=by subst X;have h0:=FC.new (H:=400) (D:=D) Z.W.1 rs V;obtain⟨d,B,J⟩:=apN Y 0;refine⟨h0.p,h0.g,h0.d,⟨rfl,AC _⟩,aj3 rs,rfl,d,by omega,J,?_⟩;rw[U];omega
theorem apC(Z:Cg c fold wss text)(X:OkC c)(rs:Lq)(J:rs.flatten=text)(A:text.length<=60)(o:rs.length<=20)(j:c.L<=32):BW c fold wss text (Bn c rs)<=70000:=by
 have h:=ajj Z rs J;have h1:=ajw Z;have h2:=abs Z;have e:=Z.K;have C:=JK (s:=(c.K:Int)) (b:=(text.length:Int)) om om;rw[agQ om om,<-h2]at h;have H:∀l:List Nat,(l.map (slN c text)).sum<=l.length*300:=λl=>by
  induction l with
  |nil=>simp
  |cons a l ih=>
   rw[BO,List.sum_cons,Ao,Nat.succ_mul];have:slN c text a<=300:=by unfold slN;have h9:=afl c.K c.wm a text;have v:c.wm=c.L-1:=rfl;have y:=Z.S;have h8:=abN y.1 (dtB c.K c.wm text a).length;have h7:=(JK (s:=(c.S:Int)) (b:=((dtB c.K c.wm text a).length:Int)) om om).2;omega
   omega
 have Y:=H (List.range (nbB c text));rw[List.length_range]at Y;have U:(EL fold wss (c.F:Int) text).length<=400*60:=by rw[Lj Z.right];have B:0<(AB wss).length:=(AP.1 (CM wss)).1;refine AS (Mx _ _ _ B) (GR (Hx (Fy.2 ⟨IY Z.right,rfl,rfl⟩)) A)
 have V:nbB c text<=60:=by omega
 have I:((List.range (nbB c text)).map (slN c text)).sum<=60*300:=AS Y (IO _ V);have hW:=X.W;omega
end
def Or(ans:List Bool)(i:Nat):Bool:=ans.isEmpty || (ans.take i).any id
theorem apP{ans:List Bool}{i:Nat}{x:Bool}(h:ans[i]?=some x):Or ans (i+1)=(Or ans i || x):=by unfold Or;rw[LH,h,List.any_append,Bool.or_assoc];simp
theorem apQ{ans:List Bool}(h:Or ans ans.length=true):ans=[]∨true∈ans:=by
 unfold Or at h;rw[Hl]at h
 rcases Bool.or_eq_true_iff.1 h with h|h
 ·cases ans with
  |nil=>exact .inl rfl
  |cons a l=>cases h
 ·obtain⟨x,h1,h2⟩:=MZ.1 h;have h2:x=true:=h2;subst h2;exact .inr h1
theorem apL(c:CfM)(fold:Bool)(a:Option Addr)(la ca:Nat)(b:Option Addr)(n cb:Nat)(d:Option Addr)(m cd:Nat)(pa:Option Addr)(pn pc:Nat)(wss Z:Lq)(l:List Int)(w:World)(hA:Wds w a la wss)(hR:Wds w b n Z)(hD:Sl1 bool w d m c.ans)(hP:Sl1 (int i64) w pa pn l)
  (ap:GV fold wss c.W c.K c.R c.Q c.O c.S c.F Z m=true) (hL:Au wss=(c.L:Int)) (a2:c.L<=32) (ae:c.scan=scF fold wss c.S) (b8:pn<=30) (hY:Z.flatten.length<=30) (aC:∀y∈wss,y.length<=c.L) (ax:1<=c.L) :
  Calls ZP 3 #[.agg (DS fold a la ca c.W c.K c.R c.Q c.O c.S c.F c.br b n cb d m cd),slice pa pn pc] w λe w'=>e=.returned (bool true)/\Br w w':=by
 obtain⟨W,hW⟩:∃W,W=w.alloc (.cells (DS fold a la ca c.W c.K c.R c.Q c.O c.S c.F c.br b n cb d m cd) 29):=⟨_,rfl⟩;have X:Br w W:=by rw[hW];exact(AH _ _).alloc (AC _) _
 have hO:Bx w.heap.size [.cells (DS fold a la ca c.W c.K c.R c.Q c.O c.S c.F c.br b n cb d m cd) 29] W:=by rw[hW];exact(Bx.nil _ w).snoc _ rfl
 have HC:Hid (∀V,Br W V->V.cell? ⟨w.heap.size,0,none⟩=some (bool fold)/\V.cell? ⟨w.heap.size,1,none⟩=some (slice a la ca)/\V.cell? ⟨w.heap.size,2,none⟩=some (int i64 c.W)/\V.cell? ⟨w.heap.size,3,none⟩=some (int i64 c.K)/\V.cell? ⟨w.heap.size,4,none⟩=some (int i64 c.R)/\V.cell? ⟨w.heap.size,5,none⟩=some (int i64 c.Q)/\V.cell? ⟨w.heap.size,6,none⟩=some (int i64 c.O)/\V.cell? ⟨w.heap.size,7,none⟩=some (int i64 c.S)/\V.cell? ⟨w.heap.size,8,none⟩=some (int i64 c.F)/\V.cell? ⟨w.heap.size,9,none⟩=some (bool c.br)/\V.cell? ⟨w.heap.size,10,none⟩=some (slice b n cb)/\V.cell? ⟨w.heap.size,11,none⟩=some (slice d m cd)):=λV I=>by have h:=hO.below I;exact⟨h.cell (i:=0) rfl rfl,h.cell (i:=0) rfl rfl,h.cell (i:=0) rfl rfl,h.cell (i:=0) rfl rfl,h.cell (i:=0) rfl rfl,h.cell (i:=0) rfl rfl,h.cell (i:=0) rfl rfl,h.cell (i:=0) rfl rfl,h.cell (i:=0) rfl rfl,h.cell (i:=0) rfl rfl,h.cell (i:=0) rfl rfl,h.cell (i:=0) rfl rfl⟩
 obtain⟨p1,p2,p3,p4,p5,p6⟩:=abc ap;have U:=aok p3 a2;obtain⟨g1,g2,g3⟩:=ako p1 fold;have aV:=hA.len;have aU:=hR.len;have aq:=ajF p5;have ar:=ao2 ae (Hx (Fy.2 ⟨IY p2,rfl,rfl⟩));have aB:(AB wss).length<=400:=Hx (Fy.2 ⟨IY p2,rfl,rfl⟩);have aO:400*(c.K+c.wm)<=1000000:=by
  have h1:=U.K;have h2:c.wm<=31:=by unfold CfM.wm;omega
  omega
 have aJ:∀x∈Z,FS x/\x.length<=60:=λx C=>⟨λy hy=>hR.bytes x C y hy,aq x C⟩;have a7:Cg c fold wss Z.flatten:=⟨p2,ae,hL,aC,ax,U.K,U.S,by have:=Gi.1 p3;omega,by omega⟩;obtain⟨N,hN⟩:∃N,BW c fold wss Z.flatten (Bn c Z)=N:=⟨_,rfl⟩;have b0:N<=70000:=by rw[<-hN];exact apC a7 U Z rfl p5 p4 a2
 have av:=ajj a7 Z rfl;rw[hN]at av;have ai:(EL fold wss (c.F:Int) Z.flatten).length<=2000000000:=by rw[Lj p2];have hp:0<(AB wss).length:=(AP.1 (CM wss)).1;exact AS (Mx _ _ _ hp) (AS (GR aB p5) om)
 obtain⟨f,hf⟩:∃f,max c.ans.length 1=f:=⟨_,rfl⟩;have B:c.ans.length=m:=hD.1;have aG:f<=12:=by omega
 have aD:c.ans=[]∨true∈c.ans->OvX c fold wss Z.flatten (c.K+c.wm) 60 f N 0 (Bn c Z):=λhy=>OvX.new a7 U hf.symm hy Z rfl aJ hN;obtain⟨P,af⟩:∃P,f*N=P:=⟨_,rfl⟩;have be:P<=12*70000:=by rw[<-af];exact GR aG b0
 have k1:Hid (Calls ZP 11 #[.agg (DS fold a la ca c.W c.K c.R c.Q c.O c.S c.F c.br b n cb d m cd)] W λe w'=>e=.returned (bool true)/\Br W w'):=by have:=abk fold a la ca c.W c.K c.R c.Q c.O c.S c.F c.br b n cb d m cd wss Z W (hA.below X) (hR.below X);rw[ap]at this;exact this
 have k2:Hid (∀V,Br W V->Calls ZP 14 #[.agg (DS fold a la ca c.W c.K c.R c.Q c.O c.S c.F c.br b n cb d m cd)] V λe w'=>∃A o,e=.returned (.tuple #[pointer (some ⟨A.P,0,none⟩),pointer (some ⟨A.Kk,0,none⟩)])/\AI A c o (Bn c Z) w'/\Br V w'/\∀k,k<V.heap.size->o k=0):=λV I=>
  ahW c fold a la ca b n cb d m cd wss Z V ((hA.below X).below I) ((hR.below X).below I) ((hD.below X).below I) p2 om (λx C=>by have:=g2 x C;omega) om hL a2 ae U p3 om (λx C=>by have:=aq x C;omega) om
 have k3:Hid (∀V,Br W V->Calls ZP 15 #[.agg (DS fold a la ca c.W c.K c.R c.Q c.O c.S c.F c.br b n cb d m cd)] V λe w'=>e=.returned (int i64 (N:Int))/\Br V w'):=λV I=>
  ahO c fold a la ca b n cb d m cd wss Z V ((hA.below X).below I) ((hR.below X).below I) p2 om (λx C=>by have:=g2 x C;omega) hL ⟨ax,a2⟩ p3 om om ai N av
 have k4:Hid (∀V,Br W V->∀t,t<=900000->Calls ZP 18 #[slice pa pn pc,int i64 ((t:Nat):Int)] V λe w'=>e=.returned (int i64 (JI l t))/\V=w'):=λV I t ht=>aes pa pn pc l t V ((hP.below X).below I) om om;have k5:Hid (∀(A:PAd)(o:Nat->Nat)(s:PlM)(w4 V:World)(i:Nat),AE A c o s w4 V->OvX c fold wss Z.flatten (c.K+c.wm) 60 f N i s->i<=900000->∀z:Int,Calls ZP 17 #[pointer (some ⟨A.P,0,none⟩),int i64 z] V λe w'=>e=.returned (.tuple (match EZ c s z with|none=>#[int i64 0,bool false]|some t=>#[int i64 (t:Int),bool true]))/\AE A c o (Fi c s z) w4 w'):=λA o s w4 V i hg hi hl z=>
  ahi w4 V hg U (hi.ok a7 U hl aO om ar) z
 have k6:Hid (∀(A:PAd)(o:Nat->Nat)(s:PlM)(w4 V:World)(i:Nat),AE A c o s w4 V->OvX c fold wss Z.flatten (c.K+c.wm) 60 f N i s->Calls ZP 16 #[pointer (some ⟨A.P,0,none⟩)] V λe w'=>e=.returned (bool (Fd s))/\AE A c o s w4 w'):=λA o s w4 V i hg hi=>
  hg.low λo1 h1=>(ahx V h1 U hi.p.a.f.wl).mono λe w' ⟨h2,h3⟩=>⟨h2,hg.bel h3⟩
 have k8:Hid (∀(i:Nat)(s:PlM),c.ans=[]∨true∈c.ans->OvX c fold wss Z.flatten (c.K+c.wm) 60 f N i s->(P<=i->Fd s=true)/\(Fd s=false->∀z,∃k,EZ c s z=some k/\OvX c fold wss Z.flatten (c.K+c.wm) 60 f N (i+1) (Fi c s z))):=λi s hy h=>
  ⟨λhi=>h.end (by rw[af];exact hi),λho z=>h.pick a7 U ar hf.symm hy ho z⟩
 have k9:Hid (∀V,Br W V->Calls ZP 12 #[slice b n cb] V λe w'=>∃(a1:Option Addr)(c1:Nat),e=.returned (slice a1 Z.flatten.length c1)/\Br V w'):=λV I=>by refine(act b n cb Z V ((hR.below X).below I) om om).mono ?_;rintro e w' ⟨a1,c1,h1,_,_,h2⟩;exact⟨a1,c1,h1,h2⟩
 have az:Hid (∀V,Br W V->∀i,i<m->∃(q:Nat)(of:Nat)(x:Bool),d=some ⟨q,of,none⟩/\c.ans[i]?=some x/\V.cell? ⟨q,of+i,none⟩=some (bool x)):=λV I i hi=>by have h1:=(hD.below X).below I;obtain⟨q,of,e,_,hc⟩:=h1.2.resolve_left om;have C:c.ans[i]?=some (c.ans[i]'om):=Ar _;exact⟨q,of,_,e,C,hc i _ C⟩
 have b5:max (m:Int) 1=(f:Int):=by omega
 have b4:IntKind.i64.wrap ((f:Int)*(N:Int))=(P:Int):=by
  have e:(f:Int)*(N:Int)=(P:Int):=by rw[<-af];simp
  rw[e,BK];omega
 have aQ:=AA B;obtain⟨Y,aN⟩:∃Y,Z.flatten.length=Y:=⟨_,rfl⟩;rw[aN]at k9 hY;have HB:=AA X;have aR:=AA aD;obtain⟨q0,q1,q2,q3,q4,q5,q6,q7,q8,q9,D,H⟩:=HC.out W (AH _ _);clear hA hR hD hP ap hL a2 ae hO X p1 p2 p3 p4 p5 p6 U g1 g2 g3 aV aU aq ar aB aO aJ aD a7 hN av ai aC ax B hf af aN;have bg:decide ((30:Int)<(pn:Int))=false:=by simp;omega
 have b7:decide (30<pn)=false:=by simp;omega
 have gY:decide ((30:Int)<(Y:Int))=false:=by simp;omega
 have bf:decide (30<Y)=false:=by simp;omega
 go_enter func3,ntmps3;go_upto_region 1 with fail
 rw[<-hW];clear hW
 go_wp2_with fail
 refine k1.out.mono ?_;rintro e w1 ⟨rfl,aM⟩;have X1:=AA aM;clear q0 q1 q2 q3 q4 q5 q6 q7 q8 q9 D H aM k1;obtain⟨q0,q1,q2,q3,q4,q5,q6,q7,q8,q9,D,H⟩:=HC.out w1 X1.out;have K9:=AA (k9.out w1 X1.out);clear k9
 go_wp2_with fail
 refine K9.out.mono ?_;rintro e wj ⟨aj,cj,rfl,aK⟩;have XJ:=AA (X1.out.trans (aK.mono X1.out.size));clear q0 q1 q2 q3 q4 q5 q6 q7 q8 q9 D H aK K9;obtain⟨q0,q1,q2,q3,q4,q5,q6,q7,q8,q9,D,H⟩:=HC.out wj XJ.out;obtain⟨M0,aw⟩:∃M0,decide ((m:Int)=0)=M0:=⟨_,rfl⟩;have b6:((m:Int)==0)=M0:=by rw[<-aw];rfl
 have aA:Or c.ans 0=M0:=by
  rw[<-aw];unfold Or;rw[List.take_zero];have B:=aQ.out
  cases aI:c.ans with
  |nil=>rw[aI]at B;simp at B;subst B;rfl
  |cons x l=>rw[aI]at B;simp at B;rw[decide_eq_false om];rfl
 have aP:=AA aA;have bh:=AA aw;clear aA;go_upto_region 6 with fail
 go_loopw[6,7] (λs6 s7 wr=>∃(i:Nat)(Q:Bool),i<=m/\s6=bool Q/\s7=int i64 i/\Hid (Or c.ans i=Q)/\Hid (Br W wr)) (λ_ s _=>m-(intOf s).toNat)
 case atStart=>exact⟨0,_,by omega,rfl,rfl,aP,XJ⟩
 case round=>
  clear q0 q1 q2 q3 q4 q5 q6 q7 q8 q9 D H XJ aP;obtain⟨i,Q,bd,rfl,rfl,HQ,XW⟩:=hrel;obtain⟨q0,q1,q2,q3,q4,q5,q6,q7,q8,q9,D,H⟩:=HC.out wr XW.out
  by_cases aW:i<m
  ·have hd:decide ((i:Int)<(m:Int))=true:=by simp;omega
   have aY:decide (i<m)=true:=by simp;omega
   obtain⟨q,of,x,rfl,C,aZ⟩:=az.out wr XW.out i aW;have HX:=AA (apP C);have i1:(0:Int)<=(i:Int):=by omega
   have i2:(i:Int)<(m:Int):=by omega
   clear C
   cases Q with
   |true=>
    have ab:Hid (Or c.ans (i+1)=true):=by rw[Hid,HX.out,HQ.out];rfl
    go_wp2
    go_roundw
    case rel=>exact⟨i+1,true,by omega,rfl,by simp,ab,XW⟩
    case measure=>simp[intOf];omega
   |false=>
    have ab:Hid (Or c.ans (i+1)=x):=by rw[Hid,HX.out,HQ.out];rfl
    go_wp2
    go_roundw
    case rel=>exact⟨i+1,x,by omega,by simp,by simp,ab,XW⟩
    case measure=>simp[intOf];omega
  ·have hd:decide ((i:Int)<(m:Int))=false:=by simp;omega
   have aY:decide (i<m)=false:=by simp;omega
   have ab:Hid (Or c.ans c.ans.length=Q):=by rw[Hid,aQ.out,<-HQ.out];congr 1;omega
   have K2:=AA (k2.out wr XW.out);clear k2 az HQ
   go_wp2_with fail
   refine K2.out.mono ?_;rintro e w2 ⟨A,o,rfl,hS,au,hz⟩;have b1:=AA au;have X2:=AA (XW.out.trans (au.mono XW.out.size));have HZ:=AA hz;have aS:=AA hS.g;clear q0 q1 q2 q3 q4 q5 q6 q7 q8 q9 D H au hS hz K2;obtain⟨q0,q1,q2,q3,q4,q5,q6,q7,q8,q9,D,H⟩:=HC.out w2 X2.out;have K3:=AA (k3.out w2 X2.out);clear k3
   go_wp2_with fail
   refine K3.out.mono ?_;rintro e w3 ⟨rfl,aL⟩;have ay:=AA (aS.out.bel aL);have KB:Hid (∀s V,AE A c o s w2 V->Br W V):=λs V h=>XW.out.trans ((h.base b1.out HZ.out).mono XW.out.size);clear q0 q1 q2 q3 q4 q5 q6 q7 q8 q9 D H aL aS K3
   cases Q with
   |false=>
    have a6:Hid (Br w w3):=HB.out.trans ((KB.out _ w3 ay.out).mono HB.out.size)
    go_wp2_with fail
    refine(LP w3).mono ?_;rintro e w8 ⟨rfl,aa⟩;go_wp2;go_ret;exact⟨rfl,a6.out.trans (aa.mono a6.out.size)⟩
   |true=>
    have ak:=AA (apQ ab.out);have al:=AA (aR.out ak.out);have n0:decide ((N:Int)<0)=false:=by simp
    clear aR;go_upto_region 16 with fail
    go_loopw[11] (λaT wr=>∃(i:Nat)(s:PlM),i<=P/\aT=int i64 i/\Hid (OvX c fold wss Z.flatten (c.K+c.wm) 60 f N i s)/\Hid (AE A c o s w2 wr)) (λs _=>P-(intOf s).toNat)
    case atStart=>exact⟨0,_,by omega,rfl,al,ay⟩
    case round=>
     clear al ay;obtain⟨j,s,bb,rfl,HI,HG⟩:=hrel;obtain⟨am,ac⟩:=k8.out j s ak.out HI.out
     by_cases b9:j<P
     ·have aX:decide ((j:Int)<(P:Int))=true:=by simp;omega
      have aH:decide (j<P)=true:=by simp;omega
      obtain⟨V,I⟩:∃v,Fd s=v:=⟨_,rfl⟩;have J:=k6.out A o s w2 wr j HG.out HI.out;rw[I]at J ac;have K6:=AA J;clear J am
      go_wp2_with fail
      refine K6.out.mono ?_;rintro e w6 ⟨rfl,aF⟩;have ag:=AA aF;clear aF K6
      cases V with
      |true=>
       have J:=k6.out A o s w2 w6 j ag.out HI.out;rw[I]at J;have K6:=AA J;clear J
       go_wp2_with fail
       refine K6.out.mono ?_;rintro e w7 ⟨rfl,a8⟩;have a6:Hid (Br w w7):=HB.out.trans ((KB.out s w7 a8).mono HB.out.size);clear a8 K6
       go_wp2_with fail
       refine(LP w7).mono ?_;rintro e w8 ⟨rfl,aa⟩;go_wp2;go_ret;exact⟨rfl,a6.out.trans (aa.mono a6.out.size)⟩
      |false=>
       obtain⟨k,hk,C⟩:=ac rfl (JI l j);have b2:=AA C;have K4:=AA (k4.out w6 (KB.out s w6 ag.out) j om);have ao:=k5.out A o s w2 w6 j ag.out HI.out om (JI l j);rw[hk]at ao;have K5:=AA ao;clear ao C hk I HI HG ag ac;have j1:(0:Int)<=(j:Int):=by omega
       go_wp2_with fail
       refine K4.out.mono ?_;rintro e w7 ⟨rfl,rfl⟩
       go_wp2_with fail
       refine K5.out.mono ?_;rintro e w8 ⟨rfl,aE⟩;have b3:=AA aE;clear aE K4 K5;go_wp2
       go_roundw
       case rel=>exact⟨j+1,_,by omega,by simp,b2,b3⟩
       case measure=>simp[intOf];omega
     ·have aX:decide ((j:Int)<(P:Int))=false:=by simp;omega
      have aH:decide (j<P)=false:=by simp;omega
      have I:Fd s=true:=am om;clear am ac;have J:=k6.out A o s w2 wr j HG.out HI.out;rw[I]at J;have K6:=AA J;clear J
      go_wp2_with fail
      refine K6.out.mono ?_;rintro e w7 ⟨rfl,a8⟩;have a6:Hid (Br w w7):=HB.out.trans ((KB.out s w7 a8).mono HB.out.size);clear a8 K6
      go_wp2_with fail
      refine(LP w7).mono ?_;rintro e w8 ⟨rfl,aa⟩;go_wp2;go_ret;exact⟨rfl,a6.out.trans (aa.mono a6.out.size)⟩
theorem apM(fold:Bool)(a:Option Addr)(j ca:Nat)(wk bl rg B y C fr:Int)(br:Bool)(b:Option Addr)(n s:Nat)(d:Option Addr)(m cd:Nat)(pa:Option Addr)(D pc:Nat)(wss X:Lq)(w:World)(hA:Wds w a j wss)(hR:Wds w b n X)
  (U:GV fold wss wk bl rg B y C fr X m=false∨30<D∨30<X.flatten.length) :
  Calls ZP 3 #[.agg (DS fold a j ca wk bl rg B y C fr br b n s d m cd),slice pa D pc] w λe w'=>e=.returned (bool true)/\Br w w':=by
 obtain⟨W,hW⟩:∃W,W=w.alloc (.cells (DS fold a j ca wk bl rg B y C fr br b n s d m cd) 29):=⟨_,rfl⟩;have J:Br w W:=by rw[hW];exact(AH _ _).alloc (AC _) _
 have hO:Bx w.heap.size [.cells (DS fold a j ca wk bl rg B y C fr br b n s d m cd) 29] W:=by rw[hW];exact(Bx.nil _ w).snoc _ rfl
 have HC:Hid (∀V,Br W V->V.cell? ⟨w.heap.size,0,none⟩=some (bool fold)/\V.cell? ⟨w.heap.size,1,none⟩=some (slice a j ca)/\V.cell? ⟨w.heap.size,2,none⟩=some (int i64 wk)/\V.cell? ⟨w.heap.size,3,none⟩=some (int i64 bl)/\V.cell? ⟨w.heap.size,4,none⟩=some (int i64 rg)/\V.cell? ⟨w.heap.size,5,none⟩=some (int i64 B)/\V.cell? ⟨w.heap.size,6,none⟩=some (int i64 y)/\V.cell? ⟨w.heap.size,7,none⟩=some (int i64 C)/\V.cell? ⟨w.heap.size,8,none⟩=some (int i64 fr)/\V.cell? ⟨w.heap.size,9,none⟩=some (bool br)/\V.cell? ⟨w.heap.size,10,none⟩=some (slice b n s)/\V.cell? ⟨w.heap.size,11,none⟩=some (slice d m cd)):=λV hV=>by have h:=hO.below hV;exact⟨h.cell (i:=0) rfl rfl,h.cell (i:=0) rfl rfl,h.cell (i:=0) rfl rfl,h.cell (i:=0) rfl rfl,h.cell (i:=0) rfl rfl,h.cell (i:=0) rfl rfl,h.cell (i:=0) rfl rfl,h.cell (i:=0) rfl rfl,h.cell (i:=0) rfl rfl,h.cell (i:=0) rfl rfl,h.cell (i:=0) rfl rfl,h.cell (i:=0) rfl rfl⟩
 have v:=AA (abk fold a j ca wk bl rg B y C fr br b n s d m cd wss X W (hA.below J) (hR.below J));obtain⟨S,hS⟩:∃S,GV fold wss wk bl rg B y C fr X m=S:=⟨_,rfl⟩;have k9:Hid (S=true->∀V,Br W V->Calls ZP 12 #[slice b n s] V λe w'=>∃(a1:Option Addr)(c1:Nat),e=.returned (slice a1 X.flatten.length c1)/\Br V w'):=λhs V hV=>by have ac:=hR.len;obtain⟨_,_,_,p4,p5,_⟩:=abc (hS.trans hs);refine(act b n s X V ((hR.below J).below hV) om om).mono ?_;rintro e w' ⟨a1,c1,h1,_,_,h2⟩;exact⟨a1,c1,h1,h2⟩
 obtain⟨Y,a6⟩:∃Y,X.flatten.length=Y:=⟨_,rfl⟩;rw[a6]at k9 U;rw[hS]at v U;have HB:=AA J;obtain⟨q0,q1,q2,q3,q4,q5,q6,q7,q8,q9,H,A⟩:=HC.out W (AH _ _);clear hA hR hO J hS a6;have aa:S=false∨(S=true/\30<D)∨(S=true/\¬30<D/\30<Y):=by
  cases S with
  |false=>exact .inl rfl
  |true=>
   by_cases h1:30<D
   ·exact .inr (.inl ⟨rfl,h1⟩)
   ·exact .inr (.inr ⟨rfl,h1,(by
     rcases U with h|h|h
     ·cases h
     ·omega
     ·exact h)⟩)
 clear U
 rcases aa with rfl|⟨rfl,h1⟩|⟨rfl,h1,h2⟩
 ·go_enter func3,ntmps3;go_upto_region 1 with fail
  rw[<-hW];clear hW
  go_wp2_with fail
  refine v.out.mono ?_;rintro e o ⟨rfl,Z⟩;have I:=AA (HB.out.trans (Z.mono HB.out.size));clear q0 q1 q2 q3 q4 q5 q6 q7 q8 q9 H A Z v
  go_wp2_with fail
  refine(LP o).mono ?_;rintro e w2 ⟨rfl,N⟩;go_wp2;go_ret;exact⟨rfl,I.out.trans (N.mono I.out.size)⟩
 ·have ab:decide ((30:Int)<(D:Int))=true:=by simp;omega
  have a7:decide (30<D)=true:=by simp;omega
  go_enter func3,ntmps3;go_upto_region 1 with fail
  rw[<-hW];clear hW
  go_wp2_with fail
  refine v.out.mono ?_;rintro e o ⟨rfl,Z⟩;have I:=AA (HB.out.trans (Z.mono HB.out.size));clear q0 q1 q2 q3 q4 q5 q6 q7 q8 q9 H A Z v
  go_wp2_with fail
  refine(LP o).mono ?_;rintro e w2 ⟨rfl,N⟩;go_wp2;go_ret;exact⟨rfl,I.out.trans (N.mono I.out.size)⟩
 ·have ab:decide ((30:Int)<(D:Int))=false:=by simp;omega
  have a7:decide (30<D)=false:=by simp;omega
  have gY:decide ((30:Int)<(Y:Int))=true:=by simp;omega
  have ae:decide (30<Y)=true:=by simp;omega
  have K9:=AA (k9.out rfl);go_enter func3,ntmps3;go_upto_region 1 with fail
  rw[<-hW];clear hW
  go_wp2_with fail
  refine v.out.mono ?_;rintro e o ⟨rfl,Z⟩;have a8:=AA (K9.out o Z);have I:=AA (HB.out.trans (Z.mono HB.out.size));clear q0 q1 q2 q3 q4 q5 q6 q7 q8 q9 A H;obtain⟨_,_,_,_,_,_,_,_,_,_,H,_⟩:=HC.out o Z;clear Z v K9
  go_wp2_with fail
  refine a8.out.mono ?_;rintro e wj ⟨aj,cj,rfl,a2⟩;have I:=AA (I.out.trans (a2.mono I.out.size));clear a2 a8
  go_wp2_with fail
  refine(LP wj).mono ?_;rintro e w2 ⟨rfl,N⟩;go_wp2;go_ret;exact⟨rfl,I.out.trans (N.mono I.out.size)⟩
theorem apK(fold:Bool)(a:Option Addr)(I B:Nat)(wk bl rg V N X fr:Int)(br:Bool)(b:Option Addr)(n C:Nat)(d:Option Addr)(m D:Nat)(J:Option Addr)(U H:Nat)(wss Z:Lq)(ans:List Bool)(l:List Int)(w:World)(v:Wds w a I wss)(y:Wds w b n Z)(hD:Sl1 bool w d m ans)(hP:Sl1 (int i64) w J U l) :Calls ZP 3 #[.agg (DS fold a I B wk bl rg V N X fr br b n C d m D),slice J U H] w λe w'=>e=.returned (bool true)/\Br w w':=by
 by_cases Y:GV fold wss wk bl rg V N X fr Z m=false∨30<U∨30<Z.flatten.length
 ·exact apM fold a I B wk bl rg V N X fr br b n C d m D J U H wss Z w v y Y
 ·have A:GV fold wss wk bl rg V N X fr Z m=true:=by
   cases h:GV fold wss wk bl rg V N X fr Z m with
   |true=>rfl
   |false=>exact absurd (.inl h) Y
  obtain⟨c,rfl,rfl,rfl,rfl,rfl,rfl,rfl,rfl,rfl,l1,l2,j,o,s⟩:=aiq br ans A;exact apL c fold a I B b n C d m D J U H wss Z l w v y hD hP A l1 j s (Nat.le_of_not_lt λh=>Y (.inr (.inl h))) (Nat.le_of_not_lt λh=>Y (.inr (.inr h))) o l2
end Go.Proofs.YtaamacoicojhnaaGreat
