/- Proofs over the given program, part 15. -/
import Derived.Test.YtaamacoicojhnaaGreatZR14
set_option linter.unusedVariables false
set_option linter.unusedSimpArgs false
set_option maxRecDepth 100000
set_option maxHeartbeats 16000000
open Go.Proofs.Tryz
open Go.Proofs.Tryz renaming prog→ZP
open Go.World(cell? frozen?)
open Go.Value(int slice pointer bool)
open Go.IntKind(i64)
namespace Go.Proofs.YtaamacoicojhnaaGreat
open Go.RowKit Go.Sort
theorem LX{s:PlM}{i:Nat}{x:WkM}(Y:s.wk[i]?=some x)(f:WkM->WkM):setW s i f=setW s i λ_=>f x:=by
 unfold setW;have e:s.wk.modify i f=s.wk.modify i λ_=>f x:=by
  refine Hn λj=>?_;rw[GS,GS]
  by_cases Z:i=j
  ·subst Z;rw[Y];simp
  ·simp[Z]
 rw[e]
theorem AE.freezeW{A:PAd}{c:CfM}{s:PlM}{o:Nat->Nat}{w w':World}{i:Nat}{x:WkM}(h:AE A c o s w w')(B:s.wk[i]?=some x)(hi:i<900)(N:x.ph=3) :∃U,AI A c U s w'/\(∀k,o k=0->U k=0)/\PB o U w w'/\∃p a Z,w'.heap[A.Wk i]?=some (.cells (wkV A i x p (slice a x.hits.length Z)) 249 (0,0))/\SlD (λk=>U k=0) w' a x.hits.length x.hits/\p.num=x.blk.num/\x.hits.length<=Z:=by
 obtain⟨X,h1,y,z⟩:=h;have h0:CP A s (λk=>X k=i+11) (λk=>X k=0) w' i:=h1.part (i+11) om;have Y:=h0;unfold CP at Y;rw[B]at Y;obtain⟨p,hv,C,k2,D,V,H,k6⟩:=Y;obtain⟨a,Z,rfl,q1,j,q3⟩:=Gy V.1;refine⟨_,h1.freeze (s':=s) (i+11) (slice a x.hits.length Z).ownBlock (λk hk=>⟨V.lt k hk,V.2 k hk⟩) om ?_ λ_ _ _ _ _ h=>h,λk hk=>?_,⟨z.c,λk hk e=>?_⟩,p,a,Z,C,⟨j,λh0 q e=>?_⟩,D.1,q1⟩
 ·show CP A s (λk=>X k=i+11/\(slice a x.hits.length Z).ownBlock≠some k) (λk=>X k=0∨(slice a x.hits.length Z).ownBlock=some k) w' i;unfold CP;rw[B];refine⟨p,_,C,⟨k2,H⟩,D.wide λk _ hk=>.inl hk,⟨V.1,λg hg=>.inr (.inr hg)⟩,H,λh=>absurd N h⟩
 ·unfold Hq
  split
  ·rfl
  ·exact y k hk
 ·have I:=z.f k hk e;unfold Hq
  split
  ·rename_i e3
   rcases V.2 k e3 with J|J<;>(have J:X k=_:=J;omega)
  ·exact I
 ·have I:(slice a x.hits.length Z).ownBlock=some q.block:=by rw[e];rfl
  show Hq X _ q.block=0;unfold Hq;rw[Lc I]
theorem ah5{A:PAd}{c:CfM}{s:PlM}{o:Nat->Nat}{i:Nat}{x:WkM}(w W:World)(h:AE A c o s w W)(hx:s.wk[i]?=some x)(hi:i<900)(B:x.ph=3)(hl:s.fr.length<=100000)(hn:x.blk.num<=1000000000)(z:s.next<=1000000000)(h1:s.next<=x.blk.num)(h2:x.blk.num-s.next<c.R)(X:s.rg[x.blk.num-s.next]?=some none) :Calls ZP 150 #[pointer (some ⟨A.Wk i,0,none⟩)] W λe w'=>e=.returned (.tuple #[])/\AE A c o (putWM s i) w w':=by
 obtain⟨o2,hS,z2,g2,p,a,cc,Z,N,J,H⟩:=h.freezeW hx hi B;have a1:=hS.g.ceP 13 (pointer (some ⟨A.G,0,none⟩)) λ_=>rfl;obtain⟨T,hT⟩:∃T,A.Wk i=T:=⟨_,rfl⟩;rw[hT]at Z;have k0:W.cell? ⟨T,0,none⟩=some (pointer (some ⟨A.P,0,none⟩)):=by simp[cell?,Z,wkV,EO]
 obtain⟨nu,I⟩:∃b,x.blk.num=b:=⟨_,rfl⟩;obtain⟨m,hm⟩:∃b,x.hits.length=b:=⟨_,rfl⟩;rw[I]at hn h1 h2 X J;rw[hm]at Z N H;have k6:W.cell? ⟨T,6,none⟩=some (int i64 (nu:Int)):=by rw[<-J];simp only[cell?,Z];rfl
 have D:W.cell? ⟨T,13,none⟩=some (slice a m cc):=by simp only[cell?,Z];rfl
 have hC:=λ(V:World)(hV:Bt W V)=>(hS.g.bel hV).lift λo3 h3 z3=>ap1 h3 nu m cc a x.hits hn z h1 h2 X ((N.keep (Y:=λ_=>False) (.of_same hV) λ_ _ _ h=>h).wide λk _ hk=>z3 k hk) H;have U:∀s' V,AE A c o2 s' W V->AE A c o s' w V:=λs' V X=>AE.comp z2 g2 X;have C:putWM s i=leaveW {s with rg:=s.rg.set (nu-s.next) (some x.hits)} i:=by unfold putWM;rw[hx];simp only[I]
 have HC:=AA hC;have a6:=AA U;have y:=AA (Lq hx (Lq hi (Lq hl (Lq hT C))));rw[hT];clear h hx hi B hl hn z h1 h2 X hS z2 g2 Z N J hT I hm hC U C H;go_enter func150,ntmps150;go_upto_region 0 with fail
 refine Hw 18 mixed kr ?_;dsimp only[List.take_succ_cons,List.take_zero,List.drop_succ_cons,List.drop_zero]
 repeat (go_big_quiet_step (fail))
 refine wpQuiet_nil ?_;rintro _ ⟨nq,rfl⟩;have a7:=AA (HC.out _ (AN W nq));clear k0 k6 a1 D
 go_wp2_with fail
 refine a7.out.mono ?_;rintro e w1 ⟨⟨v,rfl⟩,X⟩;have j:=AA (aab w w1 (a6.out _ _ X) y.out.1 y.out.2.1 y.out.2.2.1);rw[y.out.2.2.2.1]at j;clear X
 go_wp2_with (go_at_call 202;refine j.out.mono ?_;rintro e w2 ⟨rfl,X⟩;have a2:=AA X;clear X)
 go_end0
 refine⟨rfl,?_⟩;rw[y.out.2.2.2.2];exact a2.out
theorem aeH{A:PAd}{c:CfM}{s:PlM}{o:Nat->Nat}{i:Nat}{x:WkM}(w W:World)(h:AE A c o s w W)(D:s.wk[i]?=some x)(B:i<900)(N:x.ph=1)(C:s.q=[]) :Calls ZP 148 #[pointer (some ⟨A.Wk i,0,none⟩)] W λe w'=>e=.returned (.tuple #[])/\AE A c o (takeW s i) w w':=by
 obtain⟨p,hv,J,_⟩:=h.cW D B;have H:=h.ceP 12 (pointer (some ⟨A.Q,0,none⟩)) λ_=>rfl;obtain⟨T,I⟩:∃T,A.Wk i=T:=⟨_,rfl⟩;have k0:W.cell? ⟨T,0,none⟩=some (pointer (some ⟨A.P,0,none⟩)):=by rw[<-I];simp[cell?,J,wkV,EO]
 have HC:=AA (h.lift λo1 h1 z1=>ahj h1 C);have Y:=AA (Lq D (Lq B (Lq N (Lq I C))));rw[I];clear h D B N I J C;go_enter func148,ntmps148;go_upto_region 2 with(go_at_call 199;refine HC.out.mono ?_;rintro e w1 ⟨rfl,y⟩)
 obtain⟨z,U⟩:∃V,V=w1.alloc (.cells #[int i64 0,int i64 0,int i64 0,slice none 0 0,int i64 0] 126):=⟨_,rfl⟩;have X:=y.bel (w'':=z) (by rw[U];exact AL _ _);rw[<-U];clear U k0 H y;obtain⟨p1,a1,Z,_⟩:=X.cW Y.out.1 Y.out.2.1;have j:=AA (X.setWph Y.out.1 Y.out.2.1 4 (λ_=>by rw[Y.out.2.2.1];decide));rw[Y.out.2.2.2.1]at Z j;have f1:z.frozen? ⟨T,1,none⟩=false:=by simp[frozen?,Z]
 have a2:z.cell? ⟨T,1,none⟩=some (.int .u8 (x.ph:Int)):=by simp only[cell?,Z];rfl
 clear Z X;go_wp2;refine Vf (results_none rfl _ _ _) rfl ?_;refine⟨rfl,?_⟩;have e1:takeW s i=setW s i λ_=>{x with ph:=4}:=by unfold takeW;rw[Y.out.2.2.2.2];exact LX Y.out.1 _
 rw[e1];exact j.out
theorem adM{A:PAd}{c:CfM}{s:PlM}{o:Nat->Nat}{i:Nat}{x:WkM}(w W:World)(h:AE A c o s w W)(hx:s.wk[i]?=some x)(hi:i<900)(a2:x.ph=1)(b:Bc)(q:List Bc)(hq:s.q=b::q) :Calls ZP 148 #[pointer (some ⟨A.Wk i,0,none⟩)] W λe w'=>e=.returned (.tuple #[])/\AE A c o (takeW s i) w w':=by
 obtain⟨o1,h1,z1,g1⟩:=h;obtain⟨p,hv,a7,_⟩:=h1.cW hx hi;have a8:=h1.g.ceP 12 (pointer (some ⟨A.Q,0,none⟩)) λ_=>rfl;obtain⟨T,hT⟩:∃T,A.Wk i=T:=⟨_,rfl⟩;have k0:W.cell? ⟨T,0,none⟩=some (pointer (some ⟨A.P,0,none⟩)):=by rw[<-hT];simp[cell?,a7,wkV,EO]
 have HC:=AA (ahd h1 b q hq);have HX:=AA (Lq hx (Lq hi (Lq a2 (Lq hT hq))));have J:∀s' V,AE A c o1 s' W V->AE A c o s' w V:=λs' V hg=>AE.comp z1 g1 hg;have aa:=AA J;rw[hT];clear h1 z1 g1 hx hi a2 hT a7 hq J;go_enter func148,ntmps148;go_upto_region 3 with(go_at_call 199;refine HC.out.mono ?_;rintro e w1 ⟨Z,rfl,a6,hg⟩)
 obtain⟨U,I⟩:∃V,V=w1.alloc (.cells #[int i64 Z.num,int i64 Z.start,int i64 Z.warm,slice Z.a Z.m Z.c,int i64 Z.buf] 126):=⟨_,rfl⟩;have a1:Bt w1 U:=by rw[I];exact AL _ _
 have N:U.heap[w1.heap.size]?=some (.cells #[int i64 Z.num,int i64 Z.start,int i64 Z.warm,slice Z.a Z.m Z.c,int i64 Z.buf] 126 (0,0)):=by rw[I];exact AT _ _
 obtain⟨B,hB⟩:∃B,w1.heap.size=B:=⟨_,rfl⟩;rw[<-I];rw[hB]at N⊢;have y:=hg.bel a1;have z:({s with q:=q}:PlM).wk[i]?=some x:=HX.out.1;obtain⟨C,ab,X,_⟩:=y.cW z HX.out.2.1;have H:AE A c o1 (setW {s with q:=q} i λ_=>{x with ph:=2,blk:=b}) W ((Gx U (A.Wk i) Z).setCell ⟨A.Wk i,1,none⟩ (.int .u8 2)):=by
  refine y.setWk z HX.out.2.1 _ _ (by unfold Gx;simp only[Oa]) (λk hk=>?_) ?_ λo3 p hv h3 z3 f1 f2 f3 f4 f5=>⟨Z,hv,?_,(a6.keep (Y:=λ_=>False) (.of_same a1) λ_ _ _ h=>h).wide λk _ hk=>z3 k hk,f3,f4,λ_ g hg=>f5 (by rw[HX.out.2.2.1];decide) g hg⟩
  ·rw[AQ _ ⟨A.Wk i,1,none⟩ _ k hk,aeO _ _ _ k hk]
  ·have hc:Chg (λ_=>True) U ((Gx U (A.Wk i) Z).setCell ⟨A.Wk i,1,none⟩ (.int .u8 2)):=by unfold Gx;exact((((((Chg.refl _ U).set trivial).set trivial).set trivial).set trivial).set trivial).set trivial
   exact⟨hc.os,hc.tape,hc.output⟩
  ·exact AJ (i:=1) (agx f1 Z) (.int .u8 2)
 have D:=AA H;rw[HX.out.2.2.2.1]at X D;have x0:U.cell? ⟨B,0,none⟩=some (int i64 Z.num):=by simp[cell?,N]
 have x1:U.cell? ⟨B,1,none⟩=some (int i64 Z.start):=by simp[cell?,N]
 have x2:U.cell? ⟨B,2,none⟩=some (int i64 Z.warm):=by simp[cell?,N]
 have x3:U.cell? ⟨B,3,none⟩=some (slice Z.a Z.m Z.c):=by simp[cell?,N]
 have x4:U.cell? ⟨B,4,none⟩=some (int i64 Z.buf):=by simp[cell?,N]
 have fz:∀j,U.frozen? ⟨T,j,none⟩=false:=λj=>by simp[frozen?,X]
 have f1:=fz 1;have f6:=fz 6;have f7:=fz 7;have f8:=fz 8;have f9:=fz 9;have ac:=fz 10;have ae:U.cell? ⟨T,1,none⟩=some (.int .u8 (x.ph:Int)):=by simp only[cell?,X];rfl
 have c6:U.cell? ⟨T,6,none⟩=some (int i64 C.num):=by simp only[cell?,X];rfl
 have c7:U.cell? ⟨T,7,none⟩=some (int i64 C.start):=by simp only[cell?,X];rfl
 have c8:U.cell? ⟨T,8,none⟩=some (int i64 C.warm):=by simp only[cell?,X];rfl
 have c9:U.cell? ⟨T,9,none⟩=some (slice C.a C.m C.c):=by simp only[cell?,X];rfl
 have ad:U.cell? ⟨T,10,none⟩=some (int i64 C.buf):=by simp only[cell?,X];rfl
 clear X fz y hg a6 N a1 I k0 a8 z H hB;go_wp2
 go_end0
 refine⟨rfl,?_⟩;have e1:takeW s i=setW {s with q:=q} i λ_=>{x with ph:=2,blk:=b}:=by unfold takeW;rw[HX.out.2.2.2.2];exact(LX (s:={s with q:=q}) HX.out.1 _)
 rw[e1];exact aa.out _ _ D.out
theorem abD{A:PAd}{c:CfM}{s:PlM}{o:Nat->Nat}{i:Nat}{x:WkM}(w W:World)(h:AE A c o s w W)(Y:s.wk[i]?=some x)(V:i<900)(Z:x.ph=1) :Calls ZP 148 #[pointer (some ⟨A.Wk i,0,none⟩)] W λe w'=>e=.returned (.tuple #[])/\AE A c o (takeW s i) w w':=by
 cases X:s.q with
 |nil=>exact aeH w W h Y V Z X
 |cons b q=>exact adM w W h Y V Z b q X
theorem IZ{s:PlM}{i:Nat}{x:WkM}(Z:s.wk[i]?=some x):phW s i=x.ph:=by unfold phW;rw[Z]
theorem LY{s:PlM}{i:Nat}{x:WkM}(Z:s.wk[i]?=some x)(y:WkM):(setW s i λ_=>y).wk[i]?=some y:=by show(s.wk.modify i λ_=>y)[i]?=some y;rw[GS,Z];simp
theorem akW{s:PlM}{i:Nat}{x:WkM}(Z:s.wk[i]?=some x):∃y,(takeW s i).wk[i]?=some y/\(y.ph=4∨y.ph=2)/\(takeW s i).fr=s.fr:=by
 cases Y:s.q with
 |nil=>
  have e:takeW s i=setW s i λ_=>{x with ph:=4}:=by unfold takeW;rw[Y];exact LX Z _
  rw[e];exact⟨_,LY Z _,.inl rfl,rfl⟩
 |cons b q=>
  have e:takeW s i=setW {s with q:=q} i λ_=>{x with ph:=2,blk:=b}:=by unfold takeW;rw[Y];exact LX (s:={s with q:=q}) Z _
  rw[e];exact⟨_,LY (s:={s with q:=q}) Z _,.inr rfl,rfl⟩
theorem Of{s:PlM}{i:Nat}{x:WkM}(Z:s.wk[i]?=some x):stopW s i=if x.ph=1 then(if phW (takeW s i) i=4 then takeW s i else leaveW (takeW s i) i) else if x.ph=4 then s else leaveW s i:=by
 unfold stopW;rw[IZ Z]
 by_cases h:x.ph=1
 ·simp[h]
 ·simp[h,IZ Z]
theorem afZ{A:PAd}{c:CfM}{s:PlM}{o:Nat->Nat}{i:Nat}{x:WkM}(w W:World)(h:AE A c o s w W)(X:s.wk[i]?=some x)(I:i<900)(B:s.fr.length<=100000) :Calls ZP 152 #[pointer (some ⟨A.Wk i,0,none⟩)] W λe w'=>e=.returned (.tuple #[])/\AE A c o (stopW s i) w w':=by
 obtain⟨p,hv,V,_⟩:=h.cW X I;obtain⟨T,U⟩:∃T,A.Wk i=T:=⟨_,rfl⟩;have k1:W.cell? ⟨T,1,none⟩=some (.int .u8 (x.ph:Int)):=by rw[<-U];simp only[cell?,V];rfl
 by_cases h1:x.ph=1
 ·have HT:=AA (abD w W h X I h1);obtain⟨y,hy,a1,C⟩:=akW X;have N:=AA (Lq X (Lq I (Lq B (Lq U h1))));rw[h1]at k1;rw[U]at HT⊢;have j:=AA (Lq hy C);clear h V U X I B h1 hy C;go_enter func152,ntmps152;go_upto_region 2 with(go_at_call 148;refine HT.out.mono ?_;rintro e w1 ⟨rfl,Z⟩)
  obtain⟨p1,a2,H,_⟩:=Z.cW j.out.1 N.out.2.1;rw[N.out.2.2.2.1]at H;have z:w1.cell? ⟨T,1,none⟩=some (.int .u8 (y.ph:Int)):=by simp only[cell?,H];rfl
  clear H k1
  rcases a1 with h4|h2
  ·rw[h4]at z;have HG:=AA Z;have H4:=AA h4;clear Z h4;go_wp2
   go_end0
   refine⟨rfl,?_⟩;rw[Of N.out.1,Lc N.out.2.2.2.2,Lc (by rw[IZ j.out.1];exact H4.out)];exact HG.out
  ·rw[h2]at z;have Y:=AA (aab w w1 Z j.out.1 N.out.2.1 (by rw[j.out.2];exact N.out.2.2.1));rw[N.out.2.2.2.1]at Y;have H4:=AA h2;clear Z h2
   go_wp2_with (go_at_call 202;refine Y.out.mono ?_;rintro e w2 ⟨rfl,Z⟩;have D:=AA Z;clear Z)
   go_end0
   refine⟨rfl,?_⟩;rw[Of N.out.1,Lc N.out.2.2.2.2,Lb (by rw[IZ j.out.1,H4.out];decide)];exact D.out
 ·have e1:((x.ph:Int)==1)=false:=by simp;omega
  have e2:decide ((x.ph:Int)=1)=false:=by simp;omega
  have J:stopW s i=if x.ph=4 then s else leaveW s i:=by rw[Of X,Lb h1]
  obtain⟨m,hm⟩:∃m,x.ph=m:=⟨_,rfl⟩;rw[hm]at e1 e2 k1 J
  by_cases h4:m=4
  ·subst h4;rw[Lc rfl]at J;have HG:=AA h;have HS:=AA J;rw[U];clear h V U X I B h1 J hm;go_enter func152,ntmps152;go_wp2
   go_end0
   refine⟨rfl,?_⟩;rw[HS.out];exact HG.out
  ·rw[Lb h4]at J;have e3:((m:Int) != 4)=true:=by simp;omega
   have e4:decide ((m:Int)≠4)=true:=by simp;omega
   have e5:((m:Int)==4)=false:=by simp;omega
   have e6:decide ((m:Int)=4)=false:=by simp;omega
   have Y:=AA (aab w W h X I B);rw[U]at Y;have HS:=AA J;rw[U];clear h V U X I B h1 J hm h4;go_enter func152,ntmps152
   go_wp2_with (go_at_call 202;refine Y.out.mono ?_;rintro e w2 ⟨rfl,Z⟩;have D:=AA Z;clear Z)
   go_end0
   refine⟨rfl,?_⟩;rw[HS.out];exact D.out
theorem AE.mach{A:PAd}{c:CfM}{s:PlM}{o:Nat->Nat}{w w':World}(h:AE A c o s w w'):Nz A.m c w':=h.low λZ h1=>by have h0:MO A c (λk=>Z k=0) w':=h1.part 0 om;exact h0.mach.1 w' h0.mach.2.1
theorem aeG{s:PlM}{i:Nat}(y z:WkM):setW (setW s i λ_=>y) i (λ_=>z)=setW s i λ_=>z:=by
 unfold setW;have e:(s.wk.modify i λ_=>y).modify i (λ_=>z)=s.wk.modify i λ_=>z:=by
  refine Hn λj=>?_;rw[GS,GS,GS]
  by_cases Z:i=j
  ·subst Z
   cases s.wk[i]?<;>simp
  ·simp[Z]
 show {s with wk:=(s.wk.modify i λ_=>y).modify i (λ_=>z)}=_;rw[e]
theorem ahw(a b:List AF):AV (a++b)=AV a++AV b:=by simp[AV]
theorem AI.hitsApp{A:PAd}{c:CfM}{s:PlM}{o:Nat->Nat}{w:World}{i:Nat}{x:WkM}(h:AI A c o s w)(hx:s.wk[i]?=some x)(hi:i<900)(a1:x.ph=2){p:PcW}{C:Value}(hb:w.heap[A.Wk i]?=some (.cells (wkV A i x p C) 249 (0,0)))(l:List AF){I:Option Addr}{X J:Nat}{Y:World}
  (hr:Y.ownsRow 0 116 2 (slice I X J) (x.hits.length+l.length) (AV x.hits++AV l)) (hg:w.grownBy Y C.ownBlock) (U:(slice I X J).ownBlock=C.ownBlock∨(slice I X J).ownBlock=some w.heap.size) :
  AE A c o (setW s i λ_=>{x with hits:=x.hits++l}) w (Y.setCell ⟨A.Wk i,13,none⟩ (slice I X J))/\Y.frozen? ⟨A.Wk i,13,none⟩=false/\Y.cell? ⟨A.Wk i,13,none⟩=some C:=by
 have h0:CP A s (λk=>o k=i+11) (λk=>o k=0) w i:=h.part (i+11) om;unfold CP at h0;rw[hx]at h0;obtain⟨p2,V,z,k2,k3,k4,k5,H⟩:=h0;have e0:V=C:=by
  rw[z]at hb;have e1:=congrArg (λx=>x.bind λy=>match y with|Obj.cells cs _ _=>cs[13]?|_=>none) hb
  simpa[wkV,EO,Lf]using e1
 subst e0;have a6:=(AD.1 z).1;have H:∀g,V.ownBlock=some g->o g=i+11:=H (by rw[a1];decide);have N:Y.heap[A.Wk i]?=some (.cells (wkV A i x p2 V) 249 (0,0)):=(hg.block _ a6 λe=>k5 e.symm).trans z;have D:(slice I X J).ownBlock≠some (A.Wk i):=λe=>by
  rcases U with B|B
  ·exact k5 (B.symm.trans e)
  ·rw[B]at e;have:=AK e;omega
 have a2:Chg (λk=>o k=i+11) w Y:=(Chg.refl _ w).grown hg λg e _=>H g e;have hc:Chg (λk=>o k=i+11) w (Y.setCell ⟨A.Wk i,13,none⟩ (slice I X J)):=a2.set k2;refine⟨h.upG (i+11) om om hc ?_ (Ai.congr (i+11) (h1:=.inr ⟨rfl,rfl,rfl,rfl⟩) (h2:=.inr ⟨rfl,rfl⟩) (h3:=.inr ⟨rfl,rfl⟩) (h4:=.inr ⟨rfl,rfl,rfl⟩) (h5:=.inr ⟨rfl,rfl⟩) (h6:=.inr ⟨rfl,rfl⟩) (h7:=.inr ⟨rfl,rfl⟩) (h8:=.inr rfl) (h9:=.inr ⟨rfl,rfl⟩) (h10:=.inr rfl) (h11:=λj hj=>?_)),by simp[frozen?,N],?_⟩
 ·show CP A (setW s i λ_=>{x with hits:=x.hits++l}) (λk=>o k=i+11∨w.heap.size<=k) (λk=>o k=0) _ i;unfold CP;rw[LY hx];refine⟨p2,slice I X J,AJ (i:=13) N _,.inl k2,k3.keep hc λk _ e1 B=>by rw[e1]at B;omega,⟨?_,λg Z=>?_⟩,D,λ_ g Z=>?_⟩
  ·rw[List.length_append,ahw];exact Fu hr λg Z=>AQ Y ⟨A.Wk i,13,none⟩ _ g λe=>D (by rw[Z,e])
  ·rcases U with e|e
   ·exact .inl (.inl (H g (e ▸ Z)))
   ·rw[e]at Z;exact .inl (.inr (Gq (AK Z)))
  ·rcases U with e|e
   ·exact .inl (H g (e ▸ Z))
   ·rw[e]at Z;exact .inr (Gq (AK Z))
 ·show(s.wk.modify i λ_=>{x with hits:=x.hits++l})[j]?=s.wk[j]?;rw[GS];have:i≠j:=λe=>hj (by rw[e]);simp[this]
 ·simp only[cell?,N];rfl
theorem ag9{A:PAd}{c:CfM}{s:PlM}{o:Nat->Nat}{i:Nat}{x:WkM}(w W:World)(h:AE A c o s w W)(hx:s.wk[i]?=some x)(hi:i<900)(a6:x.ph=2)(aE:x.blk.data.length<=900000)(aD:x.hits.length+(c.scan x.blk.start x.blk.warm x.blk.data x.node x.done).2.2.1.length<=1000000) :Calls ZP 149 #[pointer (some ⟨A.Wk i,0,none⟩)] W λe w'=>e=.returned (.tuple #[])/\AE A c o (scanW c s i) w w':=by
 obtain⟨p,hv,aF,e1,e2,e3,e4,am⟩:=h.cW hx hi;obtain⟨T,hT⟩:∃T,A.Wk i=T:=⟨_,rfl⟩;obtain⟨nu,aM⟩:∃b,x.blk.num=b:=⟨_,rfl⟩;obtain⟨st,aj⟩:∃b,x.blk.start=b:=⟨_,rfl⟩;obtain⟨wm,ai⟩:∃b,x.blk.warm=b:=⟨_,rfl⟩;obtain⟨bs,ao⟩:∃b,x.blk.data=b:=⟨_,rfl⟩;obtain⟨z0,a2⟩:∃b,x.node=b:=⟨_,rfl⟩;obtain⟨d0,al⟩:∃b,x.done=b:=⟨_,rfl⟩;obtain⟨r,hr⟩:∃b,c.scan st wm bs z0 d0=b:=⟨_,rfl⟩;obtain⟨B,j,H,ov⟩:=r;rw[aj,ai,ao,a2,al,hr]at aD;rw[ao]at aE am;obtain⟨n1,aC⟩:∃b,H.length=b:=⟨_,rfl⟩;have aA:p.m=bs.length:=am.1.1.symm;have X:Hid (∀V,Bt W V->V.cell? ⟨T,0,none⟩=some (pointer (some ⟨A.P,0,none⟩))/\V.cell? ⟨A.P,0,none⟩=some (pointer (some ⟨A.m,0,none⟩))/\V.cell? ⟨A.P,6,none⟩=some (int i64 (c.S:Int))/\V.cell? ⟨T,6,none⟩=some (int i64 (nu:Int))/\V.cell? ⟨T,7,none⟩=some (int i64 (st:Int))/\V.cell? ⟨T,8,none⟩=some (int i64 (wm:Int))/\V.cell? ⟨T,9,none⟩=some (slice p.a p.m p.c)/\V.cell? ⟨T,11,none⟩=some (int i64 (z0:Int))/\V.cell? ⟨T,12,none⟩=some (int i64 (d0:Int))):=λV hV=>by
  have hg:=h.bel hV;have Z:V.heap[T]?=some (.cells (wkV A i x p hv) 249 (0,0)):=by rw[<-hT];exact(hV.block _ (AD.1 aF).1).trans aF
  refine⟨by simp only[cell?,Z];rfl,hg.ceP 0 _ λ_=>rfl,hg.ceP 6 _ λ_=>rfl,?_,?_,?_,?_,?_,?_⟩
  ·rw[<-aM,<-e1];simp only[cell?,Z];rfl
  ·rw[<-aj,<-e2];simp only[cell?,Z];rfl
  ·rw[<-ai,<-e3];simp only[cell?,Z];rfl
  ·simp only[cell?,Z];rfl
  ·rw[<-a2];simp only[cell?,Z];rfl
  ·rw[<-al];simp only[cell?,Z];rfl
 have HM:Hid (∀V,Bt W V->Calls ZP 200 #[pointer (some ⟨A.m,0,none⟩),.agg #[int i64 (nu:Int),int i64 (st:Int),int i64 (wm:Int),slice p.a p.m p.c],.agg #[int i64 (z0:Int),int i64 (d0:Int)],int i64 (c.S:Int)] V λe w'=>∃a cc,e=.returned (.tuple #[.agg #[int i64 (B:Int),int i64 (j:Int)],slice a n1 cc,bool ov])/\SlD (λk=>V.heap.size<=k/\k<w'.heap.size) w' a n1 H/\Bt V w'):=λV hV=>by rw[aA];refine((h.bel hV).mach nu st wm p.a bs.length p.c bs z0 d0 (by have:=am.below hV;rwa[aA]at this) aE).mono ?_;rintro e w' ⟨v,rfl,ho,hb⟩;rw[hr]at ho⊢;obtain⟨a,cc,rfl,_,h2,h3⟩:=Gy ho;rw[<-aC];exact⟨a,cc,rfl,⟨h2,λ_ q e=>h3 q e⟩,hb⟩
 have HG:=AA h;have C:=AA (Lq hx (Lq hi (Lq a6 (Lq hT aC))));have HZ:=AA (Lq aj (Lq ai (Lq ao (Lq a2 (Lq al hr)))));have b6:=AA aD;rw[hT];clear h hx hi a6 hT aD aM aj ai ao a2 al hr aC aA am aF e1 e2 e3 e4 aE;go_enter func149,ntmps149;go_upto_region 0 with fail
 refine Vb ?_;refine Va (S:=λV=>Bt W V) kr (AN W 1) (λhHeld=>?_);refine tkA 0 ?_;refine tkA 1 ?_;refine tkA 2 ?_;refine tkA 3 ?_;refine tkB 4 X.out ?_;refine tkA 5 ?_;refine tkA 6 ?_;refine tkB 7 X.out ?_;refine tkA 8 ?_;refine tkA 9 ?_;refine tkA 10 ?_;refine tkA 11 ?_;refine tkB 12 X.out ?_;refine tkA 13 ?_;refine tkA 14 ?_;refine tkA 15 ?_;refine tkB 16 X.out ?_;refine tkA 17 ?_;refine tkA 18 ?_;refine tkA 19 ?_;refine tkA 20 ?_;refine tkB 21 X.out ?_;refine tkA 22 ?_;refine tkA 23 ?_;refine tkA 24 ?_;refine tkB 25 X.out ?_;obtain⟨D,hD⟩:∃D,D=W.drew:=⟨_,rfl⟩;rw[<-hD]at hHeld⊢;clear hD;refine apE 26 31 (λK X=>?_) (λK X=>?_)
 focus
  go_simp
  go_at_call 200
  refine(HM.out _ hHeld).mono ?_;rintro e z ⟨a1,c1,rfl,ae,aa⟩;refine X.out _ _ (hHeld.trans (aa.mono hHeld.size)) (λI=>?_);clear X K
  try simp only[pq]
  refine tkA 27 ?_;refine tkA 28 ?_;refine tkA 29 ?_;refine tkA 30 ?_;refine rdy 31 (λK X=>?_);go_simp;refine X.out _ _ (I.trans ((AL _ _).mono I.size)) (λaH=>?_);clear X K
  try simp only[pq]
  refine rdy 32 (λK X=>?_);go_simp;obtain⟨N,J⟩:∃U,U=z.alloc (.cells #[int i64 (B:Int),int i64 (j:Int)] 247):=⟨_,rfl⟩;have Z:Bt W N:=by rw[J];exact I.trans ((AL _ _).mono I.size)
  have ac:N.heap[z.heap.size]?=some (.cells #[int i64 (B:Int),int i64 (j:Int)] 247 (0,0)):=by rw[J];exact AT _ _
  have ak:W.heap.size<=z.heap.size:=I.size;have az:SlD (λk=>W.heap.size<=k/\k<N.heap.size) N a1 n1 H:=by
   have aR:Bt z N:=by rw[J];exact AL _ _
   exact(ae.keep (Y:=λ_=>False) (.of_same aR) λ_ _ _ h=>h).wide λk _ hk=>⟨AS hHeld.size hk.1,Af hk.2 aR.size⟩
  rw[<-J];refine X.out _ _ Z (λaG=>?_);clear X K J I aH aG ae aa
  generalize z.heap.size=b1 at ac ak⊢
  clear z
  try simp only[pq]
 rotate_left
 focus
  go_simp;obtain⟨b1,ar⟩:∃b,b=D.heap.size:=⟨_,rfl⟩;obtain⟨U,hU⟩:∃U,U=D.alloc (.cells #[int i64 0,int i64 0] 247):=⟨_,rfl⟩;have a8:Bt W U:=by rw[hU];exact hHeld.trans ((AL _ _).mono hHeld.size)
  have ah:U.heap[b1]?=some (.cells #[int i64 0,int i64 0] 247 (0,0)):=by rw[hU,ar];exact AT _ _
  have ak:W.heap.size<=b1:=by rw[ar];exact hHeld.size
  rw[<-hU,<-ar];refine X.out _ _ a8 (λaH=>?_);clear X K hU ar
  try simp only[pq]
  refine rdy 26 (λK X=>?_);go_simp
  go_at_call 200
  refine(HM.out _ a8).mono ?_;rintro e z ⟨a1,c1,rfl,ae,aa⟩;refine X.out _ _ (a8.trans (aa.mono a8.size)) (λI=>?_);clear X K
  try simp only[pq]
  refine tkA 27 ?_;refine tkA 28 ?_;refine tkA 29 ?_;refine tkA 30 ?_;have a7:z.heap[b1]?=some (.cells #[int i64 0,int i64 0] 247 (0,0)):=(aa.block b1 (AD.1 ah).1).trans ah;have y0:z.cell? ⟨b1,0,none⟩=some (int i64 0):=by simp[cell?,a7]
  have y1:z.cell? ⟨b1,1,none⟩=some (int i64 0):=by simp[cell?,a7]
  have t0:z.frozen? ⟨b1,0,none⟩=false:=by simp[frozen?,a7]
  have t1:z.frozen? ⟨b1,1,none⟩=false:=by simp[frozen?,a7]
  refine rdy 32 (λK X=>?_);go_simp;obtain⟨N,J⟩:∃Y,Y=(z.setCell ⟨b1,0,none⟩ (int i64 (B:Int))).setCell ⟨b1,1,none⟩ (int i64 (j:Int)):=⟨_,rfl⟩;have Z:Bt W N:=by rw[J];exact(I.setCell ak _).setCell ak _
  have ac:N.heap[b1]?=some (.cells #[int i64 (B:Int),int i64 (j:Int)] 247 (0,0)):=by rw[J];exact AJ (i:=1) (AJ (i:=0) a7 (int i64 (B:Int))) (int i64 (j:Int))
  have az:SlD (λk=>W.heap.size<=k/\k<N.heap.size) N a1 n1 H:=by
   have hc:Chg (λk=>k=b1) z N:=by rw[J];exact((Chg.refl (λk=>k=b1) z).set rfl).set rfl
   have bd:=(AD.1 ah).1;exact(ae.keep hc λk _ hk e=>by have:=hk.1;omega).wide λk _ hk=>⟨AS a8.size hk.1,Af hk.2 hc.size⟩
  rw[<-J];refine X.out _ _ Z (λaG=>?_);clear X K J I aH aG ae aa a7 y0 y1 t0 t1 a8 ah;clear U z
  try simp only[pq]
 all_goals
  refine tkA 33 ?_;refine tkA 34 ?_;refine Vd kr ?_ _;refine At ?_;obtain⟨o3,h3,z3,g3,n3⟩:=HG.out.belZ Z;have aK:SlD (λk=>o3 k=0) N a1 n1 H:=az.wide λk _ hk=>n3 k hk.1 hk.2;obtain⟨p2,bb,ab,_⟩:=h3.cW C.out.1 C.out.2.1;have ad:AE A c o3 (setW s i λ_=>{x with node:=B,done:=j}) N ((N.setCell ⟨A.Wk i,11,none⟩ (int i64 (B:Int))).setCell ⟨A.Wk i,12,none⟩ (int i64 (j:Int))):=by
   refine h3.g.setWk C.out.1 C.out.2.1 _ _ (by simp only[Oa]) (λk hk=>?_) ?_ λo5 p hv h5 z5 f1 f2 f3 f4 f5=>⟨p,hv,AJ (i:=12) (AJ (i:=11) f1 (int i64 (B:Int))) (int i64 (j:Int)),f2,f3,f4,λ_ g hg=>f5 (by rw[C.out.2.2.1];decide) g hg⟩
   ·rw[AQ _ ⟨A.Wk i,12,none⟩ _ k hk,AQ _ ⟨A.Wk i,11,none⟩ _ k hk]
   ·have hc:Chg (λ_=>True) N ((N.setCell ⟨A.Wk i,11,none⟩ (int i64 (B:Int))).setCell ⟨A.Wk i,12,none⟩ (int i64 (j:Int))):=((Chg.refl _ N).set trivial).set trivial;exact⟨hc.os,hc.tape,hc.output⟩
  rw[C.out.2.2.2.1]at ab ad;have ag:=AA ad;have b4:=AA aK;have aV:=AA (Lq z3 g3);have b0:N.frozen? ⟨T,11,none⟩=false:=by simp[frozen?,ab]
  have aZ:N.frozen? ⟨T,12,none⟩=false:=by simp[frozen?,ab]
  have b3:N.cell? ⟨T,11,none⟩=some (int i64 (x.node:Int)):=by simp only[cell?,ab];rfl
  have b2:N.cell? ⟨T,12,none⟩=some (int i64 (x.done:Int)):=by simp only[cell?,ab];rfl
  have x0:N.cell? ⟨b1,0,none⟩=some (int i64 (B:Int)):=by simp[cell?,ac]
  have x1:N.cell? ⟨b1,1,none⟩=some (int i64 (j:Int)):=by simp[cell?,ac]
  clear h3 z3 g3 n3 ad aK ab az ac Z;go_upto_region 2 with fail
  obtain⟨V3,aT⟩:∃U,U=(N.setCell ⟨T,11,none⟩ (int i64 (B:Int))).setCell ⟨T,12,none⟩ (int i64 (j:Int)):=⟨_,rfl⟩;rw[<-aT]at ag⊢;clear aT b0 aZ b3 b2 x0 x1;have au:=ag.out.slD b4.out;obtain⟨o4,h4,z4,g4⟩:=ag.out;have ay:(setW s i λ_=>{x with node:=B,done:=j}).wk[i]?=some {x with node:=B,done:=j}:=LY C.out.1 _;obtain⟨p4,b9,aq,_,af⟩:=h4.cW ay C.out.2.1;obtain⟨a4,c4,rfl,_,_,_⟩:=Gy af.1;obtain⟨i0,aP,a2,aJ,aI⟩:=Ve IG;have aO:x.hits.length+n1<=1000000:=by have h7:x.hits.length+H.length<=1000000:=b6.out;have h9:=C.out.2.2.2.2;omega
  obtain⟨v1,W1,hr,aB,aQ,av⟩:=Gu (P:=ZP) V3 0 69 69 116 i0 (.agg #[.int .i64 0,.int .i64 0]) 2 16 underlying69 aP a2 aJ aI rfl (by decide) (.slice a4 x.hits.length c4) x.hits.length (AV x.hits) af.1 a1 n1 c1 (AV H) au.1 (λu hu=>by obtain⟨y,_,hy⟩:=Ir.1 hu;simp[IH]at hy;rcases hy with rfl|rfl<;>rfl) (by unfold maxLen;omega) om (AR _);obtain⟨a5,c5,rfl,_,_,_⟩:=Gy aB;have aw:=h4.hitsApp ay C.out.2.1 C.out.2.2.1 aq H (by rw[C.out.2.2.2.2];exact aB) aQ av;rw[C.out.2.2.2.1,aeG]at aw;rw[C.out.2.2.2.1]at aq;obtain⟨u1,u2,u3⟩:=aw;have aU:V3.cell? ⟨T,13,none⟩=some (.slice a4 x.hits.length c4):=by simp only[cell?,aq];rfl
  obtain⟨m,hm⟩:∃m,x.hits.length=m:=⟨_,rfl⟩;rw[hm]at aU hr u1 u3;obtain⟨mn,aN⟩:∃k,m+n1=k:=⟨_,rfl⟩;rw[aN]at hr u1;have HR:=AA hr;have aX:=AA u1;have aW:=AA (Lq z4 g4);clear hr u1 z4 g4 h4 ay aq af aP a2 aJ aI aO aB aQ av hm aN au;go_upto_region 3 with(at_builtin;refine aaf rfl (.tmp 44) (.tmp 45) 69 rfl rfl rfl HR.out ?_)
  obtain⟨V5,aS⟩:∃U,U=W1.setCell ⟨T,13,none⟩ (slice a5 mn c5):=⟨_,rfl⟩;rw[<-aS]at aX⊢;clear aS u2 u3 aU;have aL:∀ph,ph=(if ov then 3 else x.ph)->scanW c s i=setW s i λ_=>{x with node:=B,done:=j,hits:=x.hits++H,ph:=ph}:=λph hp=>by obtain⟨e1,e2,e3,e4,e5,e6⟩:=HZ.out;unfold scanW;rw[LX C.out.1,hp];simp only[e1,e2,e3,e4,e5,e6]
  have aY:=AA aL;have hG:=AE.comp aV.out.1 aV.out.2 (AE.comp aW.out.1 aW.out.2 aX.out);have ax:(setW s i λ_=>{x with node:=B,done:=j,hits:=x.hits++H}).wk[i]?=some {x with node:=B,done:=j,hits:=x.hits++H}:=LY C.out.1 _;obtain⟨p5,b8,ap,_⟩:=hG.cW ax C.out.2.1;have a6:=hG.setWph ax C.out.2.1 3 (λe=>absurd rfl e);rw[aeG]at a6;rw[C.out.2.2.2.1]at ap a6;have b7:=AA hG;have b5:=AA a6;have f1:V5.frozen? ⟨T,1,none⟩=false:=by simp[frozen?,ap]
  have be:V5.cell? ⟨T,1,none⟩=some (.int .u8 (x.ph:Int)):=by simp only[cell?,ap];rfl
  clear ap a6 hG ax aL
  cases ov with
  |true=>
   go_wp2
   go_end0
   refine⟨rfl,?_⟩;rw[aY.out 3 rfl];exact b5.out
  |false=>
   go_wp2
   go_end0
   refine⟨rfl,?_⟩;rw[aY.out x.ph rfl];exact b7.out
section
theorem aa0(P:Program)(w:World)(a:Addr)(m:Mode):(store a .nilFunc m).run P w=stored P w a .nilFunc m:=run_store P w a _ m rfl
attribute[local go_sem] IW aa0
def Ky(ty:TypeId):Prop:=ty=175∨ty=177∨ty=179∨ty=181
theorem ar2(ty:TypeId)(Z:Ky ty)(n T:Nat)(w:World):Sem.run ZP (method (n+1) ty (pointer (some ⟨T,0,none⟩)) "teasel/pool.phase") w=.ok (320,pointer (some ⟨T,0,none⟩)) w:=by rcases Z with rfl|rfl|rfl|rfl<;>kernel_rfl
theorem NY(ty:TypeId)(Z:Ky ty)(n T:Nat)(w:World):Sem.run ZP (method (n+1) ty (pointer (some ⟨T,0,none⟩)) "teasel/pool.over") w=.ok (319,pointer (some ⟨T,0,none⟩)) w:=by rcases Z with rfl|rfl|rfl|rfl<;>kernel_rfl
theorem agX(ty:TypeId)(Z:Ky ty)(n T:Nat)(w:World):Sem.run ZP (method (n+1) ty (pointer (some ⟨T,0,none⟩)) "teasel/pool.ready") w=.ok (321,pointer (some ⟨T,0,none⟩)) w:=by rcases Z with rfl|rfl|rfl|rfl<;>kernel_rfl
theorem anG(ty:TypeId)(Z:Ky ty)(n T:Nat)(w:World):Sem.run ZP (method (n+1) ty (pointer (some ⟨T,0,none⟩)) "teasel/pool.step") w=.ok (322,pointer (some ⟨T,0,none⟩)) w:=by rcases Z with rfl|rfl|rfl|rfl<;>kernel_rfl
def tyT(c:CfM)(t:Nat):TypeId:=if t=0 then 175 else if t<=c.W then 177 else if t=c.W+1 then 179 else 181
def adT(A:PAd)(c:CfM)(t:Nat):Nat:=if t=0 then A.R else if t<=c.W then A.Wk (t-1) else if t=c.W+1 then A.M else A.E
theorem amC(A:PAd)(c:CfM)(t:Nat):Mo A c t=.iface (tyT c t) (pointer (some ⟨adT A c t,0,none⟩)):=by
 unfold Mo tyT adT
 split
 ·rfl
 ·split
  ·rfl
  ·split<;>rfl
theorem Jv(c:CfM)(t:Nat):Ky (tyT c t):=by
 unfold tyT Ky
 split
 ·exact .inl rfl
 ·split
  ·exact .inr (.inl rfl)
  ·split
   ·exact .inr (.inr (.inl rfl))
   ·exact .inr (.inr (.inr rfl))
section
variable {A:PAd}{c:CfM}{s:PlM}{o:Nat->Nat}{w:World}
theorem AI.tcR(h:AI A c o s w):GL A.P A.R s.rd.ph 5 A.mR He (mvP 146 A.R) w:=by obtain⟨Y,Z,_⟩:=h.cR;exact⟨by simp only[cell?,Z];rfl,by simp only[cell?,Z];rfl,by simp only[cell?,Z];rfl,by simp only[cell?,Z];rfl,by simp only[cell?,Z];rfl,by simp only[cell?,Z];rfl⟩
theorem AI.tcW(h:AI A c o s w){i:Nat}{x:WkM}(Y:s.wk[i]?=some x)(X:i<900):GL A.P (A.Wk i) x.ph 4 (A.mW i) (mvP 151 (A.Wk i)) (mvP 152 (A.Wk i)) w:=by obtain⟨p,V,Z,_⟩:=h.cW Y X;exact⟨by simp only[cell?,Z];rfl,by simp only[cell?,Z];rfl,by simp only[cell?,Z];rfl,by simp only[cell?,Z];rfl,by simp only[cell?,Z];rfl,by simp only[cell?,Z];rfl⟩
theorem AI.tcM(h:AI A c o s w):GL A.P A.M s.mph 3 A.mM He (mvP 157 A.M) w:=by obtain⟨a,m,Y,Z,_⟩:=h.cM;exact⟨by simp only[cell?,Z];rfl,by simp only[cell?,Z];rfl,by simp only[cell?,Z];rfl,by simp only[cell?,Z];rfl,by simp only[cell?,Z];rfl,by simp only[cell?,Z];rfl⟩
theorem AI.tcE(h:AI A c o s w):GL A.P A.E s.eph 2 A.mE (mvP 158 A.E) (mvP 160 A.E) w:=by have Z:=h.cE;exact⟨by simp only[cell?,Z];rfl,by simp only[cell?,Z];rfl,by simp only[cell?,Z];rfl,by simp only[cell?,Z];rfl,by simp only[cell?,Z];rfl,by simp only[cell?,Z];rfl⟩
theorem AI.p0(h:AI A c o s w):MO A c (λk=>o k=0) w:=h.part 0 om
theorem AI.can(h:AI A c o s w):w.cell? ⟨A.P,19,none⟩=some (bool s.cancelled):=h.g.ceP 19 _ λ_=>rfl
theorem AI.task(h:AI A c o s w)(t:Nat)(Z:t<c.W+3):w.cell? ⟨A.TT,t,none⟩=some (.iface (tyT c t) (pointer (some ⟨adT A c t,0,none⟩))):=by rw[<-amC];exact h.p0.tasks t Z
end
theorem NX{P T at_ Z mp:Nat}{sc sd:Value}(w:World)(U:GL P T at_ Z mp sc sd w)(C:at_=Z) :Calls ZP 323 #[pointer (some ⟨T,0,none⟩)] w λe w'=>e=.returned (.tuple #[.agg #[.nilFunc,.nilFunc],bool false])/\Bt w w':=by
 obtain⟨W,hW⟩:∃W,W=w.alloc (.cells #[Value.nilFunc,Value.nilFunc] 241):=⟨_,rfl⟩;have hB:Bt w W:=by rw[hW];exact AL _ _
 have J:Fl w.heap.size .nilFunc .nilFunc W:=by rw[hW];exact Kx _ _ _
 have V:=NS T at_ Z W (U.below hB).c1 (U.below hB).c2;have I:decide ((at_:Int)=(Z:Int))=true:=by simp;omega
 rw[I]at V;have x:=AA V;have H:=AA hB;have z:=AA J;clear U hB J V I C;go_enter func323,ntmps323;go_upto_region 1 with fail
 rw[<-hW];clear hW;go_upto_region 2 with(go_at_call 319;refine x.out.mono ?_;rintro e D ⟨rfl,X⟩)
 have Y:=z.out.below X;obtain⟨h,j,u0,u1⟩:=Y.cells;have y:=AA (Y.put .nilFunc .nilFunc);have N:Hid (Bt w ((D.setCell ⟨w.heap.size,0,none⟩ .nilFunc).setCell ⟨w.heap.size,1,none⟩ .nilFunc)):=((H.out.trans (X.mono H.out.size)).setCell (AC _) _).setCell (AC _) _;clear Y X;go_wp2;refine Vf (aat (B:=w.heap.size) rfl rfl y.out) rfl ?_;exact⟨rfl,N.out⟩
theorem NJ{T:Nat}(w:World)(V:Calls ZP 323 #[pointer (some ⟨T,0,none⟩)] w λe w'=>e=.returned (.tuple #[.agg #[.nilFunc,.nilFunc],bool false])/\Bt w w') :Calls ZP 321 #[pointer (some ⟨T,0,none⟩)] w λe w'=>e=.returned (bool false)/\Bt w w':=by
 have N:=AA V;clear V;go_enter func321,ntmps321;go_upto_region 2 with(go_at_call 323;refine N.out.mono ?_;rintro e U ⟨rfl,Z⟩)
 obtain⟨W,hW⟩:∃W,W=U.alloc (.cells #[Value.nilFunc,Value.nilFunc] 241):=⟨_,rfl⟩;have Y:Bt w W:=by rw[hW];exact Z.alloc Z.size _
 have X:=AA Y;rw[<-hW];clear hW Z Y;go_wp2;go_ret;exact⟨rfl,X.out⟩
end
section
attribute[local go_sem] IW NY
theorem aek{next:Nat}{l:List AF}{r:List (Option (List AF))}:∀j,∃t,Ga next (some l::r) (j+1)=next::t
 |0=>⟨[],by simp[Ga]⟩
 |j+1=>by obtain⟨t,Z⟩:=aek (next:=next) (l:=l) (r:=r) j;rw[Ga,Z];exact⟨t++_,rfl⟩
theorem aeS{next:Nat}{rg:List (Option (List AF))}(h:∀l,rg[0]?≠some (some l)):∀j x,x∈Ga next rg j->next<x
 |0,x,hx=>by cases hx
 |j+1,x,hx=>by
  rw[Ga]at hx
  rcases Bf.1 hx with h1|h1
  ·exact aeS h j x h1
  ·revert h1
   cases Z:rg[j]? with
   |none=>intro h1;simp at h1
   |some y=>
    cases y with
    |none=>intro h1;simp at h1
    |some l=>
     intro h1;simp at h1;have:j≠0:=λe=>h l (by rw[<-e];exact Z);omega
def Kj(rg:List (Option (List AF))):Bool:=match rg with|some _::_=>true|_=>false
theorem agc(s:PlM):Gt s=(Kj s.rg || (decide (s.rd.ph=5)&&decide (s.next=s.number))):=by
 unfold Gt Kj
 cases s.rg with
 |nil=>rfl
 |cons y t=>cases y<;>rfl
theorem ac3{A:PAd}{c:CfM}{s:PlM}{o:Nat->Nat}(w:World)(h:AI A c o s w)(hx:s.next<=1000000000)(hR:1<=c.R)(hg:s.rg.length=c.R) :Calls ZP 153 #[pointer (some ⟨A.M,0,none⟩)] w λe w'=>e=.returned (bool (Gt s))/\Bt w w':=by
 have hk:∀V,Bt w V->V.cell? ⟨A.M,0,none⟩=some (pointer (some ⟨A.P,0,none⟩))/\V.cell? ⟨A.P,13,none⟩=some (pointer (some ⟨A.G,0,none⟩))/\V.cell? ⟨A.P,15,none⟩=some (slice (some ⟨A.TT,0,none⟩) (c.W+3) A.tc)/\V.cell? ⟨A.TT,0,none⟩=some (.iface (tyT c 0) (pointer (some ⟨A.R,0,none⟩)))/\V.cell? ⟨A.P,16,none⟩=some (int i64 (s.number:Int)):=λV hV=>by have h2:=h.bel hV;exact⟨(h2.tcM).c0,h2.g.ceP 13 _ λ_=>rfl,h2.g.ceP 15 _ λ_=>rfl,h2.task 0 om,h2.g.ceP 16 _ λ_=>rfl⟩
 have a6:=AA (aoh h);have H:=AA (ap0 h hx);have a7:∀V,Bt w V->Calls ZP 319 #[pointer (some ⟨A.R,0,none⟩)] V λe w'=>e=.returned (bool (decide (s.rd.ph=5)))/\Bt V w':=λV hV=>by
  have h2:=(h.bel hV).tcR;have:=NS A.R s.rd.ph 5 V h2.c1 h2.c2;have e:decide ((s.rd.ph:Int)=((5:Nat):Int))=decide (s.rd.ph=5):=by rw[Db];simp;omega
  rw[<-e];exact this
 have J:=AA a7;have HK:=AA hk;obtain⟨k0,au,_,_,_⟩:=hk w (AH _ _);have ao:=λ(T:Nat)=>NY (tyT c 0) (Jv c 0);obtain⟨ty,C⟩:∃ty,tyT c 0=ty:=⟨_,rfl⟩;have aw:∀n T w,Sem.run ZP (method (n+1) ty (pointer (some ⟨T,0,none⟩)) "teasel/pool.over") w=.ok (319,pointer (some ⟨T,0,none⟩)) w:=λn T w=>by rw[<-C];exact NY _ (Jv c 0) n T w
 rw[C]at HK;obtain⟨nx,I⟩:∃x,s.next=x:=⟨_,rfl⟩;obtain⟨nb,j⟩:∃x,s.number=x:=⟨_,rfl⟩;obtain⟨L,hL⟩:∃x,Ga s.next s.rg c.R=x:=⟨_,rfl⟩;rw[hL]at H;rw[I]at a6;rw[j]at HK;have a1:Kj s.rg=decide (L.head?=some nx)/\∀x∈L.head?,x=nx∨nx<x:=by
  obtain⟨r,hr⟩:∃r,c.R=r+1:=⟨c.R-1,by omega⟩;rw[<-hL,<-I,hr]
  cases am:s.rg with
  |nil=>rw[am]at hg;simp at hg;omega
  |cons y r2=>
   cases y with
   |some l=>
    obtain⟨t,ht⟩:=aek (next:=s.next) (l:=l) (r:=r2) r;rw[ht];simp[Kj]
   |none=>
    have hn:=aeS (next:=s.next) (rg:=none::r2) (λl=>by simp) (r+1)
    cases hc:Ga s.next (none::r2) (r+1)with
    |nil=>simp[Kj]
    |cons x t=>
     have:=hn x (by rw[hc];simp);refine⟨?_,λz hz=>?_⟩
     ·simp[Kj];omega
     ·simp at hz;omega
 have B:Gt s=(decide (L.head?=some nx) || (decide (s.rd.ph=5)&&decide (nx=nb))):=by rw[agc,a1.1,I,j]
 obtain⟨B5,ad⟩:∃b,decide (s.rd.ph=5)=b:=⟨_,rfl⟩;rw[ad]at B J;rw[B];have D:=a1.2;clear a1 B ad I j hL h hx hR hg hk a7 ao C;have e5:((nx:Int)==(nb:Int))=decide (nx=nb):=by rw[Db];simp;omega
 have e6:decide ((nx:Int)=(nb:Int))=decide (nx=nb):=by rw[Db];simp;omega
 obtain⟨B6,aq⟩:∃b,decide (nx=nb)=b:=⟨_,rfl⟩;rw[aq]at e5 e6⊢
 cases ab:L with
 |nil=>
  subst ab;go_enter func153,ntmps153;go_upto_region 4 with(first|(go_at_call 66;refine a6.out.mono ?_;rintro e w1 ⟨rfl,rfl⟩)|(go_at_call 67;refine H.out.mono ?_;rintro e w2 ⟨v2,rfl,a8,U⟩;obtain⟨a2,c2,rfl,_,X,_⟩:=Gy a8;have Z:=AA U;obtain⟨j0,ah,ag,jT,af⟩:=HK.out _ U;clear U a8 X))
  cases B5 with
  |false=>
   go_wp2_with (go_at_call 319;refine(J.out _ Z.out).mono ?_;rintro e w3 ⟨rfl,Y⟩;have N:=AA Y;clear Y)
   go_ret;exact⟨by simp,Z.out.trans (N.out.mono Z.out.size)⟩
  |true=>
   go_wp2_with (go_at_call 319;refine(J.out _ Z.out).mono ?_;rintro e w3 ⟨rfl,Y⟩;have N:=AA Y;obtain⟨i0,ak,aj,iT,ai⟩:=HK.out _ (Z.out.trans (Y.mono Z.out.size));clear Y)
   go_ret;exact⟨by simp,Z.out.trans (N.out.mono Z.out.size)⟩
 |cons x t=>
  subst ab;obtain⟨n,hn⟩:∃n,((x::t).map λx:Nat=>(x:Int)).length=n:=⟨_,rfl⟩;have av:0<n:=by rw[<-hn];simp
  have d0:decide ((n:Int) > 0)=true:=by simp;omega
  have d1:decide (0<n)=true:=by simp;omega
  have i0:(0:Int)<(n:Int):=by omega
  have hx:=D x sm;have e7:((x:Int)==(nx:Int))=decide (x=nx):=by rw[Db];simp;omega
  have e8:decide ((x:Int)=(nx:Int))=decide (x=nx):=by rw[Db];simp;omega
  have e9:decide ((x::t).head?=some nx)=decide (x=nx):=by simp
  rw[e9];obtain⟨B7,ac⟩:∃b,decide (x=nx)=b:=⟨_,rfl⟩;rw[ac]at e7 e8⊢;have ar:Hid (Calls ZP 67 #[pointer (some ⟨A.G,0,none⟩)] w λe w'=>∃a cc,e=.returned (slice a n cc)/\SlK 1 w' a n (((x::t).map λx:Nat=>(x:Int)).map (int i64))/\Bt w w'):=H.out.mono λe w' ⟨v,h1,h2,h3⟩=>by obtain⟨a,cc,rfl,_,h4,_⟩:=Gy h2;rw[hn]at h1 h4;exact⟨a,cc,h1,h4,h3⟩
  clear D hx ac hn H;go_enter func153,ntmps153;go_upto_region 4 with(first|(go_at_call 66;refine a6.out.mono ?_;rintro e w1 ⟨rfl,rfl⟩)|(go_at_call 67;refine ar.out.mono ?_;rintro e w2 ⟨a2,c2,rfl,X,U⟩;have Z:=AA U;have ae:=AA X;obtain⟨j0,ah,ag,jT,af⟩:=HK.out _ U;clear U X))
  have X:=ae.out;obtain⟨bb,oo,rfl,ap,aa⟩:=X.2.resolve_left om;have al:=aa 0 (int i64 (x:Int)) sm;rw[DQ]at al;clear X ap aa ae
  cases B7 with
  |true=>
   go_wp2;go_ret;exact⟨by simp,Z.out⟩
  |false=>
   cases B5 with
   |false=>
    go_wp2_with (go_at_call 319;refine(J.out _ Z.out).mono ?_;rintro e w3 ⟨rfl,Y⟩;have N:=AA Y;clear Y)
    go_ret;exact⟨by simp,Z.out.trans (N.out.mono Z.out.size)⟩
   |true=>
    go_wp2_with (go_at_call 319;refine(J.out _ Z.out).mono ?_;rintro e w3 ⟨rfl,Y⟩;have N:=AA Y;obtain⟨i0,ak,aj,iT,ai⟩:=HK.out _ (Z.out.trans (Y.mono Z.out.size));clear Y)
    go_ret;exact⟨by simp,Z.out.trans (N.out.mono Z.out.size)⟩
end
structure OkC(c:CfM):Prop where
 W:1<=c.W/\c.W<=8
 K:1<=c.K/\c.K<=256
 R:1<=c.R/\c.R<=16
 Q:1<=c.Q/\c.Q<=16
 O:1<=c.O/\c.O<=16
 S:1<=c.S/\c.S<=256
 F:c.F<=4611686018427387904
 wm:c.wm<=1000
structure OkM(c:CfM)(s:PlM):Prop where
 wl:s.wk.length=c.W
 gl:s.rg.length=c.R
 frl:s.fr.length<=100000
 frr:∀x∈s.fr,x<s.us.length
 dl:s.ds.length=s.us.length
 num:s.number<=1000000000
 nxt:s.next<=1000000000
 rdl:s.read<=100000000
 tol:s.told<=100000000
 rsl:∀x∈s.rs,x.length<=1000000
 tal:s.rd.tail.length<=c.wm
 ofl:s.off<=1000000
 tkl:s.tk.length<=1000000
 tol2:s.took.length<=1000000
 oul:s.out.length<=1000000
 rph:1<=s.rd.ph/\s.rd.ph<=5
 fah:c.F+s.rd.ahead<=4611686018428387904
 tak:s.rd.ph=1->s.cancelled=false->Du s.next c.R s.number=true->s.fr≠[]
 buf:(s.rd.ph=2∨s.rd.ph=3)->∃x0,s.us[s.rd.buf]?=some true/\s.ds[s.rd.buf]?=some x0/\x0.length=s.rd.warm+s.rd.own/\s.rd.own<=c.K/\s.rd.warm<=c.wm/\∀x∈x0,0<=x/\x<=255
 shu:s.rd.ph≠5->s.shut=false
 wkp:∀(i:Nat)(x:WkM),s.wk[i]?=some x->1<=x.ph/\x.ph<=4/\x.blk.data.length<=900000/\(x.ph=2->x.hits.length+(c.scan x.blk.start x.blk.warm x.blk.data x.node x.done).2.2.1.length<=1000000)
 wpu:∀(i:Nat)(x:WkM),s.wk[i]?=some x->x.ph=3->s.cancelled=false->s.next<=x.blk.num/\x.blk.num-s.next<c.R/\s.rg[x.blk.num-s.next]?=some none/\x.blk.num<=1000000000
 mgp:1<=s.mph/\s.mph<=3
 mgl:s.mph=2->s.cancelled=false->s.left≠[]
 end_:s.mph≠3->s.ended=false
 emp:1<=s.eph/\s.eph<=2
section
variable {A:PAd}{c:CfM}{s:PlM}{o:Nat->Nat}{w W:World}
theorem FQ{P T at_ Z mp:Nat}{sc sd:Value}{X:Bool}{f:Nat->Option Value}{Y U:Nat}{bc N:Array Value}{b:Bool}(w:World)(C:GL P T at_ Z mp sc sd w)(B:w.cell? ⟨P,19,none⟩=some (bool X))(H:at_≠Z)(I:ES w mp f)(D:X=false->f at_=some (.agg #[.func (.func Y) bc #[],.func (.func U) N #[]]))(J:X=true->sc=.func (.func Y) bc #[]/\sd=.func (.func U) N #[])
  (y:∀args w,(callFunc Y args).run ZP w=.ok (.enter Y args) w) (z:∀V,Bt w V->Calls ZP Y bc V λe w'=>e=.returned (bool b)/\Bt V w') :
  Calls ZP 321 #[pointer (some ⟨T,0,none⟩)] w λe w'=>e=.returned (bool b)/\Bt w w':=
 adH w (abj w C B H I D J) y z
theorem FO{P T at_ Z mp:Nat}{sc sd:Value}{X:Bool}{f:Nat->Option Value}{N Y:Nat}{bc U:Array Value}{Q:World->Prop}(w:World)(C:GL P T at_ Z mp sc sd w)(B:w.cell? ⟨P,19,none⟩=some (bool X))(H:at_≠Z)(I:ES w mp f)(D:X=false->f at_=some (.agg #[.func (.func N) bc #[],.func (.func Y) U #[]]))(J:X=true->sc=.func (.func N) bc #[]/\sd=.func (.func Y) U #[])
  (y:∀args w,(callFunc Y args).run ZP w=.ok (.enter Y args) w) (z:∀V,Bt w V->Calls ZP Y U V λe w'=>e=.returned (.tuple #[])/\Q w') :
  Calls ZP 322 #[pointer (some ⟨T,0,none⟩)] w λe w'=>e=.returned (.tuple #[])/\Q w':=
 afd w (abj w C B H I D J) y z
theorem Kw(w:World):∀V,Bt w V->Calls ZP 141 #[] V λe w'=>e=.returned (bool true)/\Bt V w':=λV _=>(acV V).mono λe w' ⟨h1,h2⟩=>⟨h1,by rw[h2];exact AH _ _⟩
theorem Kv:∀args w,(callFunc 141 args).run ZP w=.ok (.enter 141 args) w:=Vg func141 kr rfl
theorem ahn(w:World)(h:AI A c o s w)(ok:OkM c s):Calls ZP 321 #[pointer (some ⟨A.R,0,none⟩)] w λe w'=>e=.returned (bool (Ck c s))/\Bt w w':=by
 unfold Ck
 by_cases h5:s.rd.ph=5
 ·rw[Lc h5];exact NJ w (NX w h.tcR h5)
 ·rw[Lb h5]
  cases Z:s.cancelled with
  |true=>
   rw[Lc rfl];exact FQ w h.tcR h.can h5 h.p0.mR.1 (λe=>by rw[Z]at e;cases e) (λ_=>⟨rfl,rfl⟩) Kv (Kw w)
  |false=>
   rw[Lb sm];have X:=ok.rph
   rcases(by omega:s.rd.ph=1∨s.rd.ph=2∨s.rd.ph=3∨s.rd.ph=4)with e|e|e|e
   ·rw[Lc e];exact FQ w h.tcR h.can h5 h.p0.mR.1 (λ_=>by rw[e];rfl) (λe=>by rw[Z]at e;cases e) (Vg func139 kr rfl) λV Y=>abw V (h.bel Y) ok.num ok.nxt
   ·rw[Lb om,Lb om];exact FQ w h.tcR h.can h5 h.p0.mR.1 (λ_=>by rw[e];rfl) (λe=>by rw[Z]at e;cases e) Kv (Kw w)
   ·rw[Lb om,Lc e];exact FQ w h.tcR h.can h5 h.p0.mR.1 (λ_=>by rw[e];rfl) (λe=>by rw[Z]at e;cases e) (Vg func143 kr rfl) λV Y=>afJ V (h.bel Y)
   ·rw[Lb om,Lb om];exact FQ w h.tcR h.can h5 h.p0.mR.1 (λ_=>by rw[e];rfl) (λe=>by rw[Z]at e;cases e) Kv (Kw w)
theorem agZ(w:World)(h:AI A c o s w)(ok:OkM c s){i:Nat}{x:WkM}(Z:s.wk[i]?=some x)(Y:i<c.W)(hW:c.W<=8):Calls ZP 321 #[pointer (some ⟨A.Wk i,0,none⟩)] w λe w'=>e=.returned (bool (Er s i))/\Bt w w':=by
 have N:Er s i=if x.ph=4 then false else if x.ph=1 then Ep s else true:=by unfold Er;rw[Z]
 rw[N]
 by_cases h5:x.ph=4
 ·rw[Lc h5];exact NJ w (NX w (h.tcW Z om) h5)
 ·rw[Lb h5]
  cases X:s.cancelled with
  |true=>
   exact FQ w (h.tcW Z om) h.can h5 (h.p0.mW i Y).1 (λe=>by rw[X]at e;cases e) (λ_=>⟨rfl,rfl⟩) (Vg func151 kr rfl) λV U=>ae8 V (h.bel U) Z om
  |false=>
   have J:=ok.wkp i x Z
   rcases(by omega:x.ph=1∨x.ph=2∨x.ph=3)with e|e|e
   ·rw[Lc e];exact FQ w (h.tcW Z om) h.can h5 (h.p0.mW i Y).1 (λ_=>by rw[e];rfl) (λe=>by rw[X]at e;cases e) (Vg func147 kr rfl) λV U=>aam V (h.bel U) Z om
   ·rw[Lb om];exact FQ w (h.tcW Z om) h.can h5 (h.p0.mW i Y).1 (λ_=>by rw[e];rfl) (λe=>by rw[X]at e;cases e) Kv (Kw w)
   ·rw[Lb om];exact FQ w (h.tcW Z om) h.can h5 (h.p0.mW i Y).1 (λ_=>by rw[e];rfl) (λe=>by rw[X]at e;cases e) Kv (Kw w)
theorem aia(w:World)(h:AI A c o s w)(ok:OkM c s)(X:1<=c.R):Calls ZP 321 #[pointer (some ⟨A.M,0,none⟩)] w λe w'=>e=.returned (bool (EX c s))/\Bt w w':=by
 unfold EX
 by_cases h5:s.mph=3
 ·rw[Lc h5];exact NJ w (NX w h.tcM h5)
 ·rw[Lb h5]
  cases Z:s.cancelled with
  |true=>
   rw[Lc rfl];exact FQ w h.tcM h.can h5 h.p0.mM.1 (λe=>by rw[Z]at e;cases e) (λ_=>⟨rfl,rfl⟩) Kv (Kw w)
  |false=>
   rw[Lb sm];have U:=ok.mgp
   rcases(by omega:s.mph=1∨s.mph=2)with e|e
   ·rw[Lc e];exact FQ w h.tcM h.can h5 h.p0.mM.1 (λ_=>by rw[e];rfl) (λe=>by rw[Z]at e;cases e) (Vg func153 kr rfl) λV Y=>ac3 V (h.bel Y) ok.nxt X ok.gl
   ·rw[Lb om];exact FQ w h.tcM h.can h5 h.p0.mM.1 (λ_=>by rw[e];rfl) (λe=>by rw[Z]at e;cases e) (Vg func155 kr rfl) λV Y=>aej V (h.bel Y)
theorem ah8(w:World)(h:AI A c o s w)(ok:OkM c s):Calls ZP 321 #[pointer (some ⟨A.E,0,none⟩)] w λe w'=>e=.returned (bool (Fx s))/\Bt w w':=by
 unfold Fx
 by_cases h5:s.eph=2
 ·rw[Lc h5];exact NJ w (NX w h.tcE h5)
 ·rw[Lb h5];have X:=ok.emp;have e:s.eph=1:=by omega
  cases Y:s.cancelled with
  |true=>
   exact FQ w h.tcE h.can h5 h.p0.mE.1 (λe=>by rw[Y]at e;cases e) (λ_=>⟨rfl,rfl⟩) (Vg func158 kr rfl) λV Z=>aaj V (h.bel Z)
  |false=>
   exact FQ w h.tcE h.can h5 h.p0.mE.1 (λ_=>by rw[e];rfl) (λe=>by rw[Y]at e;cases e) (Vg func158 kr rfl) λV Z=>aaj V (h.bel Z)
theorem acu(w:World)(h:AI A c o s w)(Z:OkC c)(ok:OkM c s)(t:Nat)(X:t<c.W+3):Calls ZP 321 #[pointer (some ⟨adT A c t,0,none⟩)] w λe w'=>e=.returned (bool (Bj c s t))/\Bt w w':=by
 unfold Bj adT
 by_cases h0:t=0
 ·rw[Lc h0,Lc h0];exact ahn w h ok
 ·rw[Lb h0,Lb h0]
  by_cases h1:t<=c.W
  ·rw[Lc h1,Lc h1];have Y:t-1<s.wk.length:=by have:=ok.wl;omega
   exact agZ w h ok (Ar Y) om Z.W.2
  ·rw[Lb h1,Lb h1]
   by_cases h2:t=c.W+1
   ·rw[Lc h2,Lc h2];exact aia w h ok Z.R.1
   ·rw[Lb h2,Lb h2,Lc om];exact ah8 w h ok
theorem akh(h:AE A c o s w W)(U:OkC c)(ok:OkM c s)(Y:Ck c s=true):Calls ZP 322 #[pointer (some ⟨A.R,0,none⟩)] W λe w'=>e=.returned (.tuple #[])/\AE A c o (stepR c s) w w':=by
 have h0:=h;obtain⟨o1,h1,z1,g1⟩:=h0;have h5:s.rd.ph≠5:=λe=>by unfold Ck at Y;rw[Lc e]at Y;cases Y
 have hp:=ok.rph;have hK:=U.K;have I:=U.wm;unfold stepR
 cases X:s.cancelled with
 |true=>
  rw[Lc rfl];exact FO W h1.tcR h1.can h5 h1.p0.mR.1 (λe=>by rw[X]at e;cases e) (λ_=>⟨rfl,rfl⟩) (Vg func146 kr rfl) λV Z=>afD w V (h.bel Z) ok.frl
 |false=>
  rw[Lb sm]
  rcases(by omega:s.rd.ph=1∨s.rd.ph=2∨s.rd.ph=3∨s.rd.ph=4)with e|e|e|e
  ·rw[Lc e];have ha:Du s.next c.R s.number=true:=by unfold Ck at Y;rw[Lb h5,X,Lb sm,Lc e]at Y;exact Y
   have D:=ok.tak e X ha;obtain⟨l,n,j⟩:∃l n,s.fr=l++[n]:=⟨_,_,(Em D).symm⟩;have H:=ok.tal;exact FO W h1.tcR h1.can h5 h1.p0.mR.1 (λ_=>by rw[e];rfl) (λe=>by rw[X]at e;cases e) (Vg func140 kr rfl) λV Z=>afB w V (h.bel Z) n l j ok.frl ok.frr ok.dl om om
  ·rw[Lb om,Lc e];obtain⟨J,B,C,b3,y,b5,z⟩:=ok.buf (.inl e);have H:=ok.tal;refine FO W h1.tcR h1.can h5 h1.p0.mR.1 (λ_=>by rw[e];rfl) (λe=>by rw[X]at e;cases e) (Vg func142 kr rfl) λV Z=>?_
   by_cases N:s.rs=[]
   ·exact afC w V (h.bel Z) N om om ok.frl (by have:=ok.tol;omega)
   ·exact aef w V (h.bel Z) J N om I y B C om ok.tol ok.rsl ok.rdl om
  ·rw[Lb om,Lb om,Lc e];have x:s.q.length<c.Q:=by unfold Ck at Y;rw[Lb h5,X,Lb sm,Lb om,Lc e]at Y;exact Lj Y
   obtain⟨J,B,C,b3,y,b5,z⟩:=ok.buf (.inr e);exact FO W h1.tcR h1.can h5 h1.p0.mR.1 (λ_=>by rw[e];rfl) (λe=>by rw[X]at e;cases e) (Vg func144 kr rfl) λV Z=>aip w V (h.bel Z) J B C om z x (ok.shu h5) ok.fah ok.num
  ·rw[Lb om,Lb om,Lb om];exact FO W h1.tcR h1.can h5 h1.p0.mR.1 (λ_=>by rw[e];rfl) (λe=>by rw[X]at e;cases e) (Vg func145 kr rfl) λV Z=>aau w V (h.bel Z)
theorem aj6(h:AE A c o s w W)(J:OkC c)(ok:OkM c s){i:Nat}{x:WkM}(Z:s.wk[i]?=some x)(N:i<c.W)(U:Er s i=true):Calls ZP 322 #[pointer (some ⟨A.Wk i,0,none⟩)] W λe w'=>e=.returned (.tuple #[])/\AE A c o (stepW c s i) w w':=by
 have h0:=h;obtain⟨o1,h1,y,g1⟩:=h0;have hW:=J.W.2;have h5:x.ph≠4:=λe=>by unfold Er at U;rw[Z]at U;simp only[e,if_true]at U;cases U
 obtain⟨j,p2,z,B⟩:=ok.wkp i x Z;unfold stepW;rw[IZ Z]
 cases X:s.cancelled with
 |true=>
  rw[Lc rfl];exact FO W (h1.tcW Z om) h1.can h5 (h1.p0.mW i N).1 (λe=>by rw[X]at e;cases e) (λ_=>⟨rfl,rfl⟩) (Vg func152 kr rfl) λV Y=>afZ w V (h.bel Y) Z om ok.frl
 |false=>
  rw[Lb sm]
  rcases(by omega:x.ph=1∨x.ph=2∨x.ph=3)with e|e|e
  ·rw[Lc e];exact FO W (h1.tcW Z om) h1.can h5 (h1.p0.mW i N).1 (λ_=>by rw[e];rfl) (λe=>by rw[X]at e;cases e) (Vg func148 kr rfl) λV Y=>abD w V (h.bel Y) Z om e
  ·rw[Lb om,Lc e];exact FO W (h1.tcW Z om) h1.can h5 (h1.p0.mW i N).1 (λ_=>by rw[e];rfl) (λe=>by rw[X]at e;cases e) (Vg func149 kr rfl) λV Y=>ag9 w V (h.bel Y) Z om e z (B e)
  ·rw[Lb om,Lb om];obtain⟨C,D,H,I⟩:=ok.wpu i x Z e X;exact FO W (h1.tcW Z om) h1.can h5 (h1.p0.mW i N).1 (λ_=>by rw[e];rfl) (λe=>by rw[X]at e;cases e) (Vg func150 kr rfl) λV Y=>ah5 w V (h.bel Y) Z om e ok.frl I ok.nxt C D H
theorem akx(h:AE A c o s w W)(U:OkC c)(ok:OkM c s)(Z:EX c s=true):Calls ZP 322 #[pointer (some ⟨A.M,0,none⟩)] W λe w'=>e=.returned (.tuple #[])/\AE A c o (stepMg s) w w':=by
 have h0:=h;obtain⟨D,h1,H,z⟩:=h0;have h5:s.mph≠3:=λe=>by unfold EX at Z;rw[Lc e]at Z;cases Z
 have C:=ok.mgp;have B:=U.R;unfold stepMg
 cases X:s.cancelled with
 |true=>
  rw[Lc rfl];exact FO W h1.tcM h1.can h5 h1.p0.mM.1 (λe=>by rw[X]at e;cases e) (λ_=>⟨rfl,rfl⟩) (Vg func157 kr rfl) λV Y=>aeL w V (h.bel Y) ok.nxt
 |false=>
  rw[Lb sm]
  rcases(by omega:s.mph=1∨s.mph=2)with e|e
  ·rw[Lc e];refine FO W h1.tcM h1.can h5 h1.p0.mM.1 (λ_=>by rw[e];rfl) (λe=>by rw[X]at e;cases e) (Vg func154 kr rfl) λV Y=>?_
   cases N:s.rg with
   |nil=>have:=ok.gl;rw[N]at this;simp at this;omega
   |cons y r=>
    cases y with
    |none=>exact adg w V (h.bel Y) ok.nxt r N
    |some l=>exact ad4 w V (h.bel Y) ok.nxt l r N
  ·rw[Lb om];have I:s.out.length<c.O:=by unfold EX at Z;rw[Lb h5,X,Lb sm,Lb om]at Z;exact Lj Z
   refine FO W h1.tcM h1.can h5 h1.p0.mM.1 (λ_=>by rw[e];rfl) (λe=>by rw[X]at e;cases e) (Vg func156 kr rfl) λV Y=>?_
   cases J:s.left with
   |nil=>exact absurd J (ok.mgl e X)
   |cons q t=>exact aeA w V (h.bel Y) q t J I (ok.end_ h5)
theorem ait(h:AE A c o s w W)(N:OkC c)(ok:OkM c s)(Y:Fx s=true):Calls ZP 322 #[pointer (some ⟨A.E,0,none⟩)] W λe w'=>e=.returned (.tuple #[])/\AE A c o (stepE c s) w w':=by
 have h0:=h;obtain⟨I,h1,J,D⟩:=h0;have h5:s.eph≠2:=λe=>by unfold Fx at Y;rw[Lc e]at Y;cases Y
 have H:=ok.emp;have e:s.eph=1:=by omega
 unfold stepE
 cases U:s.cancelled with
 |true=>
  rw[Lc rfl];exact FO W h1.tcE h1.can h5 h1.p0.mE.1 (λe=>by rw[U]at e;cases e) (λ_=>⟨rfl,rfl⟩) (Vg func160 kr rfl) λV Z=>adC w V (h.bel Z)
 |false=>
  rw[Lb sm];refine FO W h1.tcE h1.can h5 h1.p0.mE.1 (λ_=>by rw[e];rfl) (λe=>by rw[U]at e;cases e) (Vg func159 kr rfl) λV Z=>?_
  cases X:s.out with
  |nil=>exact aeZ w V (h.bel Z) X
  |cons q t=>exact adq w V (h.bel Z) q t X ok.ofl ok.tkl ok.tol2 ok.oul
theorem akA(h:AE A c o s w W)(Y:OkC c)(ok:OkM c s)(t:Nat)(V:t<c.W+3)(Z:Bj c s t=true):Calls ZP 322 #[pointer (some ⟨adT A c t,0,none⟩)] W λe w'=>e=.returned (.tuple #[])/\AE A c o (Bi c s t) w w':=by
 unfold Bj at Z;unfold Bi adT
 by_cases h0:t=0
 ·rw[Lc h0]at Z⊢;rw[Lc h0];exact akh h Y ok Z
 ·rw[Lb h0]at Z⊢;rw[Lb h0]
  by_cases h1:t<=c.W
  ·rw[Lc h1]at Z⊢;rw[Lc h1];have X:t-1<s.wk.length:=by have:=ok.wl;omega
   exact aj6 h Y ok (Ar X) om Z
  ·rw[Lb h1]at Z⊢;rw[Lb h1]
   by_cases h2:t=c.W+1
   ·rw[Lc h2]at Z⊢;rw[Lc h2];exact akx h Y ok Z
   ·rw[Lb h2]at Z⊢;rw[Lb h2];rw[Lc om]at Z;exact ait h Y ok Z
end
theorem akD:(ZP.info? 3).map (λi=>(i.zero,i.size,i.bytes))=some (some (int i64 0),1,8):=by kernel_rfl
def enF(c:CfM)(s:PlM)(i:Nat):List Int:=((List.range i).filter (Bj c s)).map λx:Nat=>(x:Int)
theorem amA(c:CfM)(s:PlM)(i:Nat):enF c s (i+1)=enF c s i++(if Bj c s i then [(i:Int)] else []):=by
 unfold enF;rw[El,List.filter_append,Aj];congr 1
 cases h:Bj c s i<;>simp[h]
theorem akl(c:CfM)(s:PlM)(i:Nat):(enF c s i).length<=i:=by unfold enF;rw[BP];exact AS (List.length_filter_le _ _) (by rw[List.length_range];exact AC _)
theorem adu{A:PAd}{c:CfM}{s:PlM}{o:Nat->Nat}(w:World)(h:AI A c o s w)(I:OkC c)(ok:OkM c s) :Calls ZP 29 #[pointer (some ⟨A.P,0,none⟩)] w λe w'=>∃v,e=.returned v/\FR w' w.heap.size v (enF c s (c.W+3))/\Bt w w':=by
 obtain⟨N,hN⟩:∃N,c.W+3=N:=⟨_,rfl⟩;obtain⟨i0,hi,aa,a8,a7⟩:=Ve akD;have ag:=h.g.ceP 15 (slice (some ⟨A.TT,0,none⟩) N A.tc) λ_=>by rw[<-hN];rfl
 have hT:∀V,Bt w V->∀t,t<N->V.cell? ⟨A.TT,t,none⟩=some (.iface (tyT c t) (pointer (some ⟨adT A c t,0,none⟩)))/\Calls ZP 321 #[pointer (some ⟨adT A c t,0,none⟩)] V λe w'=>e=.returned (bool (Bj c s t))/\Bt V w':=λV hV t ht=>⟨(h.bel hV).task t om,acu V (h.bel hV) I ok t om⟩;have HT:=AA hT;have ak:N<=11:=by have:=I.W;omega
 have al:=AA hN;rw[hN];clear h ok I hT hN;go_enter func29,ntmps29;go_upto_region 5 with fail
 go_loopw[3,13] (λs3 a6 wr=>∃(i:Nat)(v3:Value),i<=N/\v3=s3/\a6=int i64 i/\FR wr w.heap.size v3 (enF c s i)/\Bt w wr) (λ_ s _=>N-(intOf s).toNat)
 case atStart=>exact⟨0,_,AR _,rfl,rfl,BN _ _ _ _,Jj _ _⟩
 case round=>
  obtain⟨i,v3,ai,rfl,rfl,B,U⟩:=hrel
  by_cases ad:i<N
  ·have hd:decide ((i:Int)<N)=true:=by simp;omega
   obtain⟨x,X⟩:=HT.out wr U i ad;obtain⟨ty,H⟩:∃ty,tyT c i=ty:=⟨_,rfl⟩;have ah:∀n T w,Sem.run ZP (method (n+1) ty (pointer (some ⟨T,0,none⟩)) "teasel/pool.ready") w=.ok (321,pointer (some ⟨T,0,none⟩)) w:=λn T w=>by rw[<-H];exact agX _ (Jv c i) n T w
   obtain⟨T,C⟩:∃T,adT A c i=T:=⟨_,rfl⟩;rw[H,C]at x;rw[C]at X;have J:=AA (amA c s i);have a2:=AA (akl c s i);obtain⟨b,hb⟩:∃b,Bj c s i=b:=⟨_,rfl⟩;rw[hb]at X J;have HQ:=AA X;have af:=AA B;have i1:(0:Int)<=(i:Int):=by omega
   have i2:(i:Int)<(N:Int):=by omega
   clear X B hb C H;go_upto_region 7 with fail
   go_wp2_with fail
   refine HQ.out.mono ?_;rintro e w2 ⟨rfl,a1⟩;have y:=U.trans (a1.mono U.size);have ab:=y.size;have Z:=DJ af.out a1;clear x HQ
   cases b with
   |true=>
    obtain⟨L,hL⟩:∃L,enF c s i=L:=⟨_,rfl⟩;rw[hL]at Z J a2;have ac:=a2.out
    go_wp2_with (at_builtin;refine wpList_append_own _ rfl _ _ 30 rfl w.heap.size 3 i0 (.int .i64 0) 1 8 underlying30 hi aa a8 a7 rfl (by decide) _ _ _ rfl (Z.alloc _) ⟨w2.heap.size,0,none⟩ 1 1 [.int .i64 i] rfl rfl (GI _ _ sm) (by simp[Value.oneCell']) (by unfold maxLen;omega) om (by simp;omega) ?_;intro v' w9 Y D aj)
    have ae:=(y.alloc ab (.cells #[int i64 (i:Int)] 3)).grown D (by simp;omega) (λj hj=>(Gw Z j hj).1);have z:FR w9 w.heap.size v' (enF c s (i+1)):=by rw[J.out];unfold FR;simp only[if_true,List.length_append,Aj];exact Y
    clear Z Y ac
    go_roundw
    case rel=>exact⟨i+1,_,by omega,rfl,by go_num,z,ae⟩
    case measure=>simp[intOf];omega
   |false=>
    have z:FR w2 w.heap.size v3 (enF c s (i+1)):=by have e:=J.out;simp only[Bool.false_eq_true,if_false,Cx]at e;rw[e];exact Z
    clear Z;go_wp2
    go_roundw
    case rel=>exact⟨i+1,_,by omega,rfl,by go_num,z,y⟩
    case measure=>simp[intOf];omega
  ·obtain rfl:i=N:=by omega
   have hd:decide ((i:Int)<i)=false:=by simp
   go_wp2;go_ret;exact⟨_,rfl,B,U⟩
theorem ahX{A:PAd}{c:CfM}{s:PlM}{o:Nat->Nat}(w W:World)(h:AE A c o s w W)(Y:OkC c)(ok:OkM c s)(t:Nat)(I:t<c.W+3)(C:Bj c s t=true) :Calls ZP 44 #[pointer (some ⟨A.P,0,none⟩),int i64 (t:Int)] W λe w'=>e=.returned (bool true)/\AE A c o (Bi c s t) w w':=by
 obtain⟨N,y⟩:∃N,c.W+3=N:=⟨_,rfl⟩;have H:∀V,Bt W V->V.cell? ⟨A.P,15,none⟩=some (slice (some ⟨A.TT,0,none⟩) N A.tc)/\V.cell? ⟨A.TT,t,none⟩=some (.iface (tyT c t) (pointer (some ⟨adT A c t,0,none⟩))):=λV B=>by have J:=h.bel B;exact⟨J.ceP 15 _ λ_=>by rw[<-y];rfl,J.low λo1 h1=>h1.task t I⟩
 have j:Hid (Calls ZP 321 #[pointer (some ⟨adT A c t,0,none⟩)] W λe w'=>e=.returned (bool true)/\Bt W w'):=h.low λo1 h1=>by
  have:=acu W h1 Y ok t I
  rwa[C]at this
 have x:Hid (∀V,Bt W V->Calls ZP 322 #[pointer (some ⟨adT A c t,0,none⟩)] V λe w'=>e=.returned (.tuple #[])/\AE A c o (Bi c s t) w w'):=λV B=>akA (h.bel B) Y ok t I C;obtain⟨ty,Z⟩:∃ty,tyT c t=ty:=⟨_,rfl⟩;have a2:∀n T w,Sem.run ZP (method (n+1) ty (pointer (some ⟨T,0,none⟩)) "teasel/pool.ready") w=.ok (321,pointer (some ⟨T,0,none⟩)) w:=λn T w=>by rw[<-Z];exact agX _ (Jv c t) n T w
 have a6:∀n T w,Sem.run ZP (method (n+1) ty (pointer (some ⟨T,0,none⟩)) "teasel/pool.step") w=.ok (322,pointer (some ⟨T,0,none⟩)) w:=λn T w=>by rw[<-Z];exact anG _ (Jv c t) n T w
 obtain⟨T,U⟩:∃T,adT A c t=T:=⟨_,rfl⟩;rw[U]at j x;rw[Z,U]at H;have HK:=AA H;obtain⟨D,kt⟩:=H W (AH _ _);have d0:decide ((t:Int)<0)=false:=by simp
 have d1:decide ((t:Int)>=(N:Int))=false:=by simp;omega
 have d2:decide ((N:Int)<=(t:Int))=false:=by simp;omega
 have d3:decide (N<=t)=false:=by simp;omega
 have i1:(0:Int)<=(t:Int):=by omega
 have i2:(t:Int)<(N:Int):=by omega
 clear h Y ok I C y H U Z;go_enter func44,ntmps44;go_upto_region 3 with(go_at_call 321;refine j.out.mono ?_;rintro e w1 ⟨rfl,X⟩;have z:=AA (x.out _ X);obtain⟨a1,jt⟩:=HK.out _ X;clear X)
 clear D kt
 go_wp2_with (go_at_call 322;refine z.out.mono ?_;rintro e w2 ⟨rfl,J⟩;have HG:=AA J;clear J)
 go_ret;exact⟨rfl,HG.out⟩
theorem akS(n:Int){k:Nat}(h:0<k):Fz n k<k:=by unfold Fz;have h1:=Int.tmod_lt_of_pos (n.tmod k+k) (show(0:Int)<(k:Int) by omega);have h2:=Int.lt_tmod_of_pos n (show(0:Int)<(k:Int) by omega);have h3:=Int.tmod_nonneg (a:=n.tmod k+k) (k:Int) om;omega
theorem ak5(c:CfM)(s:PlM):enF c s (c.W+3)=(II c s).map λx:Nat=>(x:Int):=rfl
theorem acm{c:CfM}{s:PlM}{n:Int}(h:EZ c s n=none):II c s=[]:=by
 unfold EZ at h;rw[List.getElem?_eq_none_iff]at h
 cases Z:II c s with
 |nil=>rfl
 |cons y t=>
  rw[Z]at h;have:=akS n (k:=(y::t).length) sm;omega
theorem aaO{c:CfM}{s:PlM}{n:Int}{t:Nat}(h:EZ c s n=some t):t<c.W+3/\Bj c s t=true:=by unfold EZ at h;have:=AX h;unfold II at this;have h2:=List.mem_filter.1 this;exact⟨List.mem_range.1 h2.1,h2.2⟩
theorem ahi{A:PAd}{c:CfM}{s:PlM}{o:Nat->Nat}(w W:World)(h:AE A c o s w W)(Z:OkC c)(ok:OkM c s)(n:Int) :Calls ZP 17 #[pointer (some ⟨A.P,0,none⟩),int i64 n] W λe w'=>e=.returned (.tuple (match EZ c s n with|none=>#[int i64 0,bool false]|some t=>#[int i64 (t:Int),bool true]))/\AE A c o (Fi c s n) w w':=by
 obtain⟨k,hk⟩:∃k,(II c s).length=k:=⟨_,rfl⟩;have Y:(enF c s (c.W+3)).length=k:=by rw[ak5,BP];exact hk
 have D:k<=1000000:=by have:=akl c s (c.W+3);have:=Z.W;omega
 have HE:Hid (Calls ZP 29 #[pointer (some ⟨A.P,0,none⟩)] W λe w'=>∃a X,e=.returned (slice a k X)/\Sl1 (int i64) w' a k (enF c s (c.W+3))/\AE A c o s w w'):=h.low λo1 h1=>(adu W h1 Z ok).mono λe w' ⟨v,h2,h3,h4⟩=>by obtain⟨a,X,rfl,_,U⟩:=Co (enc:=int i64) h3;rw[Y]at h2 U;exact⟨a,X,h2,U,h.bel h4⟩
 have a1:=AA (Lq Z ok);unfold Fi
 cases J:EZ c s n with
 |none=>
  have hz:=acm J;have I:k=0:=by rw[<-hk,hz];rfl
  subst I;clear h Z ok hk Y J hz D;go_enter func17,ntmps17
  go_wp2_with (first|(go_at_call 29;refine HE.out.mono ?_;rintro e w1 ⟨a,X,rfl,U,N⟩;have x:=AA N;have B:=AA U;clear N U)|(go_at_call 43;refine(acE n a 0 X (enF c s (c.W+3)) _ B.out om).mono ?_;rintro e j ⟨rfl,rfl⟩))
  go_ret2;exact⟨rfl,x.out⟩
 |some t=>
  obtain⟨ht,hr⟩:=aaO J;have I:k≠0:=by intro e;unfold EZ at J;have:=(AP.1 J).1;omega
  have H:(enF c s (c.W+3)).getD (Fz n k) 0=(t:Int):=by
   unfold EZ at J;rw[hk]at J;rw[ak5,DZ,BU,J]
   rfl
  have z:Hid (∀(a:Option Addr)(X:Nat) V,Sl1 (int i64) V a k (enF c s (c.W+3))->Calls ZP 43 #[int i64 n,slice a k X] V λe w'=>e=.returned (.tuple #[int i64 (t:Int),bool true])/\w'=V):=λa X V U=>by have:=acE n a k X (enF c s (c.W+3)) V U D;rw[Lb I,H]at this;exact this
  have C:Hid (∀V,AE A c o s w V->Calls ZP 44 #[pointer (some ⟨A.P,0,none⟩),int i64 (t:Int)] V λe w'=>e=.returned (bool true)/\AE A c o (Bi c s t) w w'):=λV N=>ahX w V N Z ok t ht hr;clear h Z ok hk Y J D I H ht hr;go_enter func17,ntmps17;go_upto_region 4 with(first|(go_at_call 29;refine HE.out.mono ?_;rintro e w1 ⟨a,X,rfl,U,N⟩;have x:=AA N;have B:=AA U;clear N U)|(go_at_call 43;refine(z.out a X _ B.out).mono ?_;rintro e j ⟨rfl,rfl⟩))
  go_wp2_with (go_at_call 44;refine(C.out _ x.out).mono ?_;rintro e j ⟨rfl,N⟩;have y:=AA N;clear N)
  go_ret2;exact⟨rfl,y.out⟩
def GY(c:CfM)(s:PlM)(t:Nat):Bool:=if t=0 then decide (s.rd.ph=5) else if t<=c.W then decide (phW s (t-1)=4) else if t=c.W+1 then decide (s.mph=3) else decide (s.eph=2)
theorem ajP{c:CfM}{s:PlM}(U:s.wk.length=c.W):Fd s=true↔∀t,t<c.W+3->GY c s t=true:=by
 unfold Fd;simp only[Bq,decide_eq_true_eq,List.all_eq_true]
 constructor
 ·rintro⟨⟨⟨h1,h2⟩,h3⟩,h4⟩ t V;unfold GY
  split
  ·simpa using h1
  ·split
   ·have Z:t-1<s.wk.length:=by omega
    have:=h2 _ (List.getElem_mem Z);rw[IZ (Ar Z)]
    simpa using this
   ·split
    ·simpa using h3
    ·simpa using h4
 ·intro h;refine⟨⟨⟨?_,λx X=>?_⟩,?_⟩,?_⟩
  ·have:=h 0 om;simpa[GY]using this
  ·obtain⟨i,Y⟩:=List.mem_iff_getElem?.1 X;have Z:i<s.wk.length:=(AP.1 Y).1;have:=h (i+1) om;unfold GY at this;rw[Lb om,Lc om,Jl,IZ Y]at this;exact Lj this
  ·have:=h (c.W+1) om;unfold GY at this;rw[Lb om,Lb om,Lc rfl]at this;exact Lj this
  ·have:=h (c.W+2) om;unfold GY at this;rw[Lb om,Lb om,Lb om]at this;exact Lj this
theorem ake{A:PAd}{c:CfM}{s:PlM}{o:Nat->Nat}(w:World)(h:AI A c o s w)(Y:OkC c)(U:s.wk.length=c.W)(t:Nat)(V:t<c.W+3):Calls ZP 319 #[pointer (some ⟨adT A c t,0,none⟩)] w λe w'=>e=.returned (bool (GY c s t))/\Bt w w':=by
 have go:∀{T a l mp:Nat}{sc sd:Value},GL A.P T a l mp sc sd w->Calls ZP 319 #[pointer (some ⟨T,0,none⟩)] w λe w'=>e=.returned (bool (decide (a=l)))/\Bt w w':=λ{T a l mp sc sd} X=>by
  have:=NS T a l w X.c1 X.c2;have e:decide ((a:Int)=(l:Int))=decide (a=l):=by rw[Db];simp;omega
  rwa[e]at this
 unfold GY adT
 split
 ·exact go h.tcR
 ·split
  ·have Z:t-1<s.wk.length:=by omega
   rw[IZ (Ar Z)];exact go (h.tcW (Ar Z) (by have:=Y.W;omega))
  ·split
   ·exact go h.tcM
   ·exact go h.tcE
theorem ag2(ty:TypeId)(Z:Ky ty)(T:Nat)(b:Bool)(w:World)(h:Calls ZP 319 #[pointer (some ⟨T,0,none⟩)] w λe w'=>e=.returned (bool b)/\Bt w w') :Calls ZP 58 #[.iface ty (pointer (some ⟨T,0,none⟩))] w λe w'=>e=.returned (bool (!b))/\Bt w w':=by
 have V:=AA h;have X:∀n T w,Sem.run ZP (method (n+1) ty (pointer (some ⟨T,0,none⟩)) "teasel/pool.over") w=.ok (319,pointer (some ⟨T,0,none⟩)) w:=λn T w=>NY _ Z n T w;clear h Z;go_enter func58,ntmps58
 go_wp2_with (go_at_call 319;refine V.out.mono ?_;rintro e N ⟨rfl,Y⟩;have U:=AA Y;clear Y)
 go_ret;exact⟨rfl,U.out⟩
theorem adJ{A:PAd}{c:CfM}{s:PlM}{o:Nat->Nat}(w:World)(h:AI A c o s w)(U:OkC c)(y:s.wk.length=c.W) :Calls ZP 107 #[slice (some ⟨A.TT,0,none⟩) (c.W+3) A.tc,.func (.func 58) #[] #[]] w λe w'=>∃r:Int,e=.returned (int i64 r)/\decide (0<=r)=!Fd s/\Bt w w':=by
 obtain⟨N,hN⟩:∃N,c.W+3=N:=⟨_,rfl⟩;have hT:∀V,Bt w V->∀t,t<N->V.cell? ⟨A.TT,t,none⟩=some (.iface (tyT c t) (pointer (some ⟨adT A c t,0,none⟩)))/\Calls ZP 58 #[.iface (tyT c t) (pointer (some ⟨adT A c t,0,none⟩))] V λe w'=>e=.returned (bool (!GY c s t))/\Bt V w':=λV hV t ht=>⟨(h.bel hV).task t om,ag2 _ (Jv c t) _ _ V (ake V (h.bel hV) U y t om)⟩;have HT:=AA hT;have a6:N<=11:=by have:=U.W;omega
 have H:Fd s=true↔∀t,t<N->GY c s t=true:=by rw[<-hN];exact ajP y
 have z:=AA H;have eg:=Vg func58 kr rfl;rw[hN];clear h U hT hN H y;go_enter func107,ntmps107;go_upto_region 2 with fail
 go_loopw[8] (λs8 wr=>∃(i:Nat),i<=N/\s8=int i64 i/\(∀t,t<i->GY c s t=true)/\Bt w wr) (λs _=>N-(intOf s).toNat)
 case atStart=>exact⟨0,AR _,rfl,λt ht=>by omega,Jj _ _⟩
 case round=>
  obtain⟨i,a2,rfl,Z,X⟩:=hrel
  by_cases D:i<N
  ·have hd:decide ((i:Int)<N)=true:=by simp;omega
   obtain⟨I,Y⟩:=HT.out wr X i D;have HA:=AA Z;have a1:=AA D;obtain⟨ty,J⟩:∃ty,tyT c i=ty:=⟨_,rfl⟩;obtain⟨T,C⟩:∃T,adT A c i=T:=⟨_,rfl⟩;rw[J,C]at I Y;obtain⟨b,j⟩:∃b,GY c s i=b:=⟨_,rfl⟩;rw[j]at Y;have HQ:=AA Y;have HB:=AA j;have i1:(0:Int)<=(i:Int):=by omega
   have i2:(i:Int)<(N:Int):=by omega
   clear Y j C J Z;go_upto_region 4 with fail
   go_wp2_with fail
   refine HQ.out.mono ?_;rintro e w2 ⟨rfl,x⟩;have B:=X.trans (x.mono X.size);clear I HQ
   cases b with
   |false=>
    go_wp2;go_ret;refine⟨(i:Int),rfl,?_,B⟩;have:Fd s=false:=by
     cases ho:Fd s with
     |false=>rfl
     |true=>have:=z.out.1 ho i a1.out;rw[HB.out]at this;cases this
    rw[this];simp
   |true=>
    go_wp2
    go_roundw
    case rel=>exact⟨i+1,by omega,by go_num,λt ht=>by
     by_cases e:t=i
     ·rw[e];exact HB.out
     ·exact HA.out t om,B⟩
    case measure=>simp[intOf];omega
  ·obtain rfl:i=N:=by omega
   have hd:decide ((i:Int)<i)=false:=by simp
   have HA:=AA Z;clear Z;go_wp2;go_ret;refine⟨-1,rfl,?_,X⟩;rw[z.out.2 HA.out]
   rfl
theorem acf{A:PAd}{c:CfM}{s:PlM}{o:Nat->Nat}(w:World)(h:AI A c o s w)(Y:OkC c)(U:s.wk.length=c.W) :Calls ZP 59 #[slice (some ⟨A.TT,0,none⟩) (c.W+3) A.tc,.func (.func 58) #[] #[]] w λe w'=>e=.returned (bool (!Fd s))/\Bt w w':=by
 have J:=AA (adJ w h Y U);obtain⟨b,Z⟩:∃b,Fd s=b:=⟨_,rfl⟩;obtain⟨N,X⟩:∃N,c.W+3=N:=⟨_,rfl⟩;rw[Z,X]at J;rw[Z,X];clear h Y U Z X;go_enter func59,ntmps59
 go_wp2_with (go_at_call 107;refine J.out.mono ?_;rintro e D ⟨r,rfl,V,Z⟩;have H:=AA Z;have I:=AA V;clear Z V)
 go_ret;refine⟨?_,H.out⟩;rw[<-I.out];rfl
theorem ahx{A:PAd}{c:CfM}{s:PlM}{o:Nat->Nat}(w:World)(h:AI A c o s w)(Y:OkC c)(U:s.wk.length=c.W) :Calls ZP 16 #[pointer (some ⟨A.P,0,none⟩)] w λe w'=>e=.returned (bool (Fd s))/\Bt w w':=by
 have J:=AA (acf w h Y U);have X:=h.g.ceP 15 (slice (some ⟨A.TT,0,none⟩) (c.W+3) A.tc) λ_=>rfl;obtain⟨b,Z⟩:∃b,Fd s=b:=⟨_,rfl⟩;obtain⟨N,V⟩:∃N,c.W+3=N:=⟨_,rfl⟩;rw[Z,V]at J;rw[V]at X;rw[Z];clear h Y U Z V;go_enter func16,ntmps16
 go_wp2_with (go_at_call 59;refine J.out.mono ?_;rintro e H ⟨rfl,Z⟩;have I:=AA Z;clear Z)
 go_ret;refine⟨?_,I.out⟩;simp
theorem apX{A:PAd}{c:CfM}{s:PlM}{o:Nat->Nat}(w W:World)(h:AE A c o s w W)(Z:OkC c)(J:s.wk.length=c.W) :Calls ZP 21 #[pointer (some ⟨A.P,0,none⟩)] W λe w'=>e=.returned (bool (!(s.cancelled || Fd s)))/\AE A c o (LN s) w w':=by
 have V:=h.ceP 19 (bool s.cancelled) λ_=>rfl;have I:Hid (Calls ZP 16 #[pointer (some ⟨A.P,0,none⟩)] W λe w'=>e=.returned (bool (Fd s))/\AE A c o s w w'):=h.low λy h1=>(ahx W h1 Z J).mono λe w' ⟨h2,h3⟩=>⟨h2,h.bel h3⟩;have N:=AA h
 cases Y:s.cancelled with
 |true=>
  rw[Y]at V;have X:LN s=s:=by unfold LN;rw[Y];rfl
  rw[X];clear h J Z Y X;go_enter func21,ntmps21;go_wp2;go_ret;exact⟨by simp,N.out⟩
 |false=>
  rw[Y]at V
  cases ho:Fd s with
  |true=>
   have X:LN s=s:=by unfold LN;rw[Y,ho];rfl
   rw[X];rw[ho]at I;clear h J Z Y X ho N;go_enter func21,ntmps21
   go_wp2_with (go_at_call 16;refine I.out.mono ?_;rintro e D ⟨rfl,U⟩;have N:=AA U;clear U)
   go_ret;exact⟨by simp,N.out⟩
  |false=>
   have X:LN s={s with cancelled:=true}:=by unfold LN;rw[Y,ho];rfl
   rw[X];rw[ho]at I;have z:=AA Y;clear h J Z X ho N Y;go_enter func21,ntmps21;go_upto_region 3 with(go_at_call 16;refine I.out.mono ?_;rintro e D ⟨rfl,U⟩)
   have B:=U.ceP 19 (bool s.cancelled) λ_=>rfl;have C:=U.frP 19;have H:=AA (U.setP 19 (bool true) {s with cancelled:=true} (λ_=>rfl) rfl (Ai.congr 1));clear U V;go_wp2;go_ret;exact⟨by simp,H.out⟩
section
variable {c:CfM}{s t:PlM}{i:Nat}{x:WkM}
theorem Ly(Z:s.wk[i]?=some x):leaveW s i=setW (Bv s x.blk.buf) i λ_=>wk0 1:=by unfold leaveW;rw[Z]
end
section
variable {c:CfM}{s t:PlM}{i k:Nat}{x:WkM}
theorem aaV:(takeW s i).cancelled=s.cancelled:=by unfold takeW;split<;>rfl
theorem aaz:(leaveW s i).cancelled=s.cancelled:=by unfold leaveW;split<;>rfl
theorem ae3(k:Nat):(Bi c s k).cancelled=s.cancelled:=by
 unfold Bi
 split
 ·unfold stepR
  split
  ·unfold stopR shutR backR
   split<;>rfl
  ·split
   ·rfl
   ·split
    ·unfold readR;dsimp only
     split
     ·split<;>rfl
     ·rfl
    ·split<;>rfl
 ·split
  ·unfold stepW
   split
   ·unfold stopW;dsimp only
    repeat' split
    all_goals first|rfl|exact aaV|exact aaz|exact aaz.trans aaV
   ·split
    ·exact aaV
    ·split
     ·rfl
     ·unfold putWM
      split
      ·rfl
      ·rw[aaz]
  ·split
   ·unfold stepMg takeM flushM Hr
    repeat' split
    all_goals rfl
   ·unfold stepE offerE Fr
    repeat' split
    all_goals rfl
structure MP(c:CfM)(s:PlM):Prop where
 r:Az s
 f:CD c s
theorem JH(Z:Er s i=true):∃x,s.wk[i]?=some x/\x.ph≠4:=by
 unfold Er at Z
 cases Y:s.wk[i]? with
 |none=>rw[Y]at Z;cases Z
 |some x=>
  rw[Y]at Z;exact⟨x,rfl,λe=>by dsimp only at Z;rw[Lc e]at Z;cases Z⟩
theorem MP.step(h:MP c s)(Z:Bj c s k=true):MP c (Bi c s k):=by
 unfold Bj at Z;unfold Bi
 split at Z
 ·rw[Lc (by assumption)];exact⟨h.r.stepR,h.f.stepR Z⟩
 ·rw[Lb (by assumption)]
  split at Z
  ·rw[Lc (by assumption)];obtain⟨x,Y,_⟩:=JH Z;exact⟨h.r.stepW Y,h.f.stepW⟩
  ·rw[Lb (by assumption)]
   split at Z
   ·rw[Lc (by assumption)];exact⟨h.r.stepMg,h.f.stepMg h.r Z⟩
   ·rw[Lb (by assumption)];exact⟨h.r.stepE,h.f.stepE⟩
theorem MP.cancel(h:MP c s):MP c (LN s):=by
 unfold LN
 split
 ·exact h
 ·exact⟨⟨h.r.ph,h.r.ho,h.r.wp,h.r.mp,h.r.ep⟩,⟨h.f.shu,h.f.en,h.f.ml,h.f.wl,h.f.gl,h.f.ql,h.f.ol⟩⟩
theorem ajE(Y:1<=c.W)(rs:La):MP c (Bn c rs):=by refine⟨⟨⟨AC _,by show 1<=5;decide⟩,by show false=true↔(1=2∨1=3);simp,λi x Z=>?_,⟨AC _,by show 1<=3;decide⟩,⟨AC _,by show 1<=2;decide⟩⟩,⟨rfl,rfl,λe=>by have e:(1:Nat)=2:=e;omega,CS,CS,AR _,AR _⟩⟩;have:=Ho (AX (show(List.replicate c.W (wk0 1))[i]?=some x from Z));rw[this];exact⟨AC _,by show 1<=4;decide⟩
def PJ(c:CfM)(s:PlM):List Int->PlM
 |[]=>s
 |n::l=>PJ c (Fi c s n) l
end
def Cj:Nat->List (Option (List AF))->List Nat
 |_,[]=>[]
 |n,none::t=>Cj (n+1) t
 |n,some _::t=>n::Cj (n+1) t
def GA(s:PlM):List Nat:=(If s).map Bc.num++Cj s.next s.rg
theorem abo:∀(n:Nat)(l:List (Option (List AF))),Cj n (l++[none])=Cj n l
 |n,[]=>rfl
 |n,none::t=>abo (n+1) t
 |n,some h::t=>congrArg (n::·) (abo (n+1) t)
theorem Ib(n y:Nat)(l:List Nat):(n::l).count y=l.count y+if y=n then 1 else 0:=by
 rw[List.count_cons]
 by_cases h:y=n
 ·subst h;simp
 ·have:¬n=y:=λe=>h e.symm;simp[h,this]
theorem abZ:∀(n j:Nat)(l:List (Option (List AF))) (h:List AF) (y:Nat),l[j]?=some none->(Cj n (l.set j (some h))).count y=(Cj n l).count y+if y=n+j then 1 else 0
 |n,j,[],h,y,hj=>by simp at hj
 |n,0,a::t,h,y,hj=>by
  cases AK hj
  show(n::Cj (n+1) t).count y=_;rw[Ib]
  rfl
 |n,j+1,none::t,h,y,hj=>by have:=abZ (n+1) j t h y hj;show(Cj (n+1) (t.set j (some h))).count y=(Cj (n+1) t).count y+_;rw[this,show n+1+j=n+(j+1) by omega]
 |n,j+1,some a::t,h,y,hj=>by have:=abZ (n+1) j t h y hj;show(n::Cj (n+1) (t.set j (some h))).count y=(n::Cj (n+1) t).count y+_;rw[Ib,Ib,this,show n+1+j=n+(j+1) by omega];omega
theorem ND:∀(n j:Nat)(l:List (Option (List AF))) (h:List AF),l[j]?=some (some h)->0<(Cj n l).count (n+j)
 |n,j,[],h,hj=>by simp at hj
 |n,0,a::t,h,hj=>by
  cases AK hj
  show 0<(n::Cj (n+1) t).count (n+0);rw[Ib,Lc om];omega
 |n,j+1,none::t,h,hj=>by have:=ND (n+1) j t h hj;show 0<(Cj (n+1) t).count (n+(j+1));rw[show n+(j+1)=n+1+j by omega];exact this
 |n,j+1,some a::t,h,hj=>by have:=ND (n+1) j t h hj;show 0<(n::Cj (n+1) t).count (n+(j+1));rw[Ib,show n+(j+1)=n+1+j by omega];omega
structure Ba(c:CfM)(s:PlM):Prop where
 le:s.next<=s.number/\s.number-s.next<=c.R
 cnt:∀y,(GA s).count y=if s.next<=y/\y<s.number then 1 else 0
 slot:s.rd.ph=2∨s.rd.ph=3->s.number-s.next<c.R
section
variable {c:CfM}{s t:PlM}{i:Nat}{x:WkM}
theorem Ea(s:PlM)(y:Nat):(GA s).count y=(s.q.map Bc.num).count y+((s.wk.flatMap hW).map Bc.num).count y+(Cj s.next s.rg).count y:=by unfold GA If;rw[En,Aj,En]
theorem Ba.same(h:Ba c s)(h1:t.next=s.next)(h2:t.number=s.number)(h3:∀y,(GA t).count y=(GA s).count y)(h4:t.rd.ph=2∨t.rd.ph=3->s.number-s.next<c.R):Ba c t:=⟨by rw[h1,h2];exact h.le,λy=>by rw[h3,h1,h2];exact h.cnt y,λe=>by rw[h1,h2];exact h4 e⟩
theorem Ba.takeW(h:Ba c s)(Z:s.wk[i]?=some x)(X:x.ph=1):Ba c (takeW s i):=by
 have h1:hW x=[]:=by unfold hW;rw[Lb om]
 unfold Proofs.YtaamacoicojhnaaGreat.takeW
 cases Y:s.q with
 |nil=>
  refine h.same rfl rfl (λy=>?_) h.slot;rw[Ea,Ea];have:=Ii Bc.num Z (λw=>{w with ph:=4}) y;rw[h1]at this;have h2:hW {x with ph:=4}=[]:=rfl;rw[h2]at this;simp only[setW];simp at this⊢;omega
 |cons b q=>
  refine h.same rfl rfl (λy=>?_) h.slot;rw[Ea,Ea,Y];have:=Ii Bc.num Z (λw=>{w with ph:=2,blk:=b}) y;rw[h1]at this;have h2:hW {x with ph:=2,blk:=b}=[b]:=rfl;rw[h2]at this;simp only[setW,BO,DE,Iw,List.count_cons]at this⊢;omega
theorem Ba.scanW(h:Ba c s)(X:s.wk[i]?=some x)(Y:x.ph=2):Ba c (scanW c s i):=by
 unfold Proofs.YtaamacoicojhnaaGreat.scanW;refine h.same rfl rfl (λy=>?_) h.slot;rw[Ea,Ea];have:=Ii Bc.num X (λw=>{w with node:=(c.scan w.blk.start w.blk.warm w.blk.data w.node w.done).1,done:=(c.scan w.blk.start w.blk.warm w.blk.data w.node w.done).2.1,hits:=w.hits++(c.scan w.blk.start w.blk.warm w.blk.data w.node w.done).2.2.1,ph:=if(c.scan w.blk.start w.blk.warm w.blk.data w.node w.done).2.2.2 then 3 else w.ph}) y;have h1:hW x=[x.blk]:=by unfold hW;rw[Lc (.inl Y)]
 have h2:∀(n d:Nat)(Z:List AF)(b:Bool),hW {x with node:=n,done:=d,hits:=Z,ph:=if b then 3 else x.ph}=[x.blk]:=λn d Z b=>by unfold hW;rw[Lc (by cases b<;>simp[Y])]
 rw[h1,h2]at this;simp only[setW];omega
theorem Ba.place(h:Ba c s)(D:s.rg.length=c.R)(N:s.wk[i]?=some x)(J:x.ph=2∨x.ph=3):s.next<=x.blk.num/\x.blk.num<s.number/\x.blk.num-s.next<c.R/\s.rg[x.blk.num-s.next]?=some none:=by
 have h1:hW x=[x.blk]:=by unfold hW;rw[Lc J]
 have V:=h.cnt x.blk.num;rw[Ea]at V;have I:0<((s.wk.flatMap hW).map Bc.num).count x.blk.num:=Iv.2 (Be.2 ⟨x.blk,Ir.2 ⟨x,AX N,by rw[h1];simp⟩,rfl⟩);have Z:s.next<=x.blk.num/\x.blk.num<s.number:=Md λY=>by rw[Lb Y]at V;omega
 rw[Lc Z]at V;have H:=h.le;refine⟨Z.1,Z.2,by omega,?_⟩;have X:x.blk.num-s.next<s.rg.length:=by omega
 have e:s.rg[x.blk.num-s.next]?=some s.rg[x.blk.num-s.next]:=Ar X
 cases U:s.rg[x.blk.num-s.next]with
 |none=>rw[e,U]
 |some r=>
  have:=ND s.next _ s.rg r (by rw[e,U]);rw[show s.next+(x.blk.num-s.next)=x.blk.num by omega]at this;omega
theorem Ba.putWM(h:Ba c s)(V:s.rg.length=c.R)(Z:s.wk[i]?=some x)(Y:x.ph=2∨x.ph=3):Ba c (putWM s i):=by
 obtain⟨N,p2,U,X⟩:=h.place V Z Y;have h1:hW x=[x.blk]:=by unfold hW;rw[Lc Y]
 unfold Proofs.YtaamacoicojhnaaGreat.putWM;rw[Z];dsimp only;rw[Ly (s:={s with rg:=s.rg.set (x.blk.num-s.next) (some x.hits)}) Z];refine h.same rfl rfl (λy=>?_) h.slot;rw[Ea,Ea];have h3:=Ii Bc.num Z (λ_=>wk0 1) y;have h2:hW (wk0 1)=[]:=rfl;rw[h1,h2,BO,DE,KO]at h3;have h4:=abZ s.next _ s.rg x.hits y X;rw[show s.next+(x.blk.num-s.next)=x.blk.num by omega]at h4;simp only[setW,Bv,DE,Iw]at h3⊢;omega
end
end Go.Proofs.YtaamacoicojhnaaGreat
