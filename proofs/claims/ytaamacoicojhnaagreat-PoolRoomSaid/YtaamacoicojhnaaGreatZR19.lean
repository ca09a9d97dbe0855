/- Proofs over the given program, part 19. -/
import Derived.Test.YtaamacoicojhnaaGreatZR18
set_option linter.unusedVariables false
set_option linter.unusedSimpArgs false
set_option maxRecDepth 100000
set_option maxHeartbeats 16000000
open Go.Proofs.Tryz
open Go.Proofs.Tryz renaming prog→ZP
open Go.World(cell? frozen?)
open Go.Value(int slice pointer bool)
open Go.IntKind(i64)
namespace Go.Proofs.YtaamacoicojhnaaGreat
open Go.RowKit Go.Sort
theorem aqy{A:PAd}{c:CfM}{s:PlM}{o:Nat->Nat}(w W:World)(h:AE A c o s w W)(aw:OkC c)(hl:s.wk.length=c.W)(hx:s.next<=1000000000)(hu:s.us.length<=1000000)(hq:s.q.length<=1000000) :Calls ZP 34 #[.pointer (some ⟨A.P,0,none⟩)] W λe w'=>∃v0 v3 v4 v6,e=.returned (.agg #[v0,.int .i64 (s.next:Int),.int .i64 (s.number:Int),v3,v4,.int .i64 (s.out.length:Int),v6,.int .i64 (s.fr.length:Int),.bool s.shut,.bool s.ended,.bool s.cancelled,.int .i64 (s.read:Int)])/\
   w'.ownsRow W.heap.size 5 1 v0 (c.W+3) ((phF c s (c.W+3)).map (Value.int .u8))/\FR w' W.heap.size v3 (s.q.map λb=>(b.num:Int))/\FR w' W.heap.size v4 ((Ga s.next s.rg c.R).map λx:Nat=>(x:Int))/\FR w' W.heap.size v6 (Oy s.us s.us.length)/\Bt W w':=by
 obtain⟨D,hD⟩:∃D,D=W.alloc (.cells #[slice none 0 0,int i64 0,int i64 0,slice none 0 0,slice none 0 0,int i64 0,slice none 0 0,int i64 0,bool false,bool false,bool false,int i64 0] 63):=⟨_,rfl⟩;have ag:Bt W D:=by rw[hD];exact AL _ _
 have hG:=h.bel ag;have J:Hid (∀U,Bt D U->U.cell? ⟨A.P,11,none⟩=some (pointer (some ⟨A.Bb,0,none⟩))/\U.cell? ⟨A.P,12,none⟩=some (pointer (some ⟨A.Q,0,none⟩))/\U.cell? ⟨A.P,13,none⟩=some (pointer (some ⟨A.G,0,none⟩))/\U.cell? ⟨A.P,14,none⟩=some (pointer (some ⟨A.O,0,none⟩))/\U.cell? ⟨A.P,16,none⟩=some (int i64 (s.number:Int))/\U.cell? ⟨A.P,17,none⟩=some (int i64 (s.read:Int))/\U.cell? ⟨A.P,19,none⟩=some (bool s.cancelled)):=λU hU=>by have hu:=hG.bel hU;exact⟨hu.ceP 11 _ λ_=>rfl,hu.ceP 12 _ λ_=>rfl,hu.ceP 13 _ λ_=>rfl,hu.ceP 14 _ λ_=>rfl,hu.ceP 16 _ λ_=>rfl,hu.ceP 17 _ λ_=>rfl,hu.ceP 19 _ λ_=>rfl⟩
 have bs:Hid (∀U,Bt D U->Calls ZP 66 #[pointer (some ⟨A.G,0,none⟩)] U λe w'=>e=.returned (int i64 (s.next:Int))/\w'=U):=λU hU=>(hG.bel hU).low λo1 h1=>aoh h1;have bq:Hid (∀U,Bt D U->Calls ZP 67 #[pointer (some ⟨A.G,0,none⟩)] U λe w'=>∃v,e=.returned v/\FR w' U.heap.size v ((Ga s.next s.rg c.R).map λx:Nat=>(x:Int))/\Bt U w'):=λU hU=>(hG.bel hU).low λo1 h1=>ap0 h1 hx;have bp:Hid (∀U,Bt D U->Calls ZP 68 #[pointer (some ⟨A.O,0,none⟩)] U λe w'=>e=.returned (int i64 (s.out.length:Int))/\Bt U w'):=λU hU=>(hG.bel hU).low λo1 h1=>ap6 h1;have bo:Hid (∀U,Bt D U->Calls ZP 69 #[pointer (some ⟨A.Bb,0,none⟩)] U λe w'=>∃v,e=.returned v/\FR w' U.heap.size v (Oy s.us s.us.length)/\Bt U w'):=λU hU=>(hG.bel hU).low λo1 h1=>aqz U (h1.part 4 om) hu;have bm:Hid (∀U,Bt D U->Calls ZP 70 #[pointer (some ⟨A.Bb,0,none⟩)] U λe w'=>e=.returned (int i64 (s.fr.length:Int))/\w'=U):=λU hU=>(hG.bel hU).low λo1 h1=>by
  have:=aqs U (h1.part 4 om)
  rwa[BP]at this
 have bl:Hid (∀U,Bt D U->Calls ZP 71 #[pointer (some ⟨A.Q,0,none⟩)] U λe w'=>e=.returned (bool s.shut)/\Bt U w'):=λU hU=>(hG.bel hU).low λo1 h1=>alC h1;have bk:Hid (∀U,Bt D U->Calls ZP 72 #[pointer (some ⟨A.O,0,none⟩)] U λe w'=>e=.returned (bool s.ended)/\Bt U w'):=λU hU=>(hG.bel hU).low λo1 h1=>akY h1;have bj:Hid (∀U,Bt D U->∃l:List PcW,l.map (λp=>p.num)=s.q.map (λb=>(b.num:Int))/\Calls ZP 73 #[pointer (some ⟨A.Q,0,none⟩)] U λe w'=>∃v,e=.returned v/\PF w' U.heap.size v l/\Bt U w'):=λU hU=>(hG.bel hU).low λo1 h1=>by obtain⟨first,ps,g1,g2,g3⟩:Gm A c s (λk=>o1 k=5) (λk=>o1 k=0) U:=h1.part 5 om;exact⟨_,ara g2 g3,aqK U g1⟩
 have HT:Hid (∀U,Bt D U->U.cell? ⟨A.P,15,none⟩=some (slice (some ⟨A.TT,0,none⟩) (c.W+3) A.tc)/\∀t,t<c.W+3->U.cell? ⟨A.TT,t,none⟩=some (.iface (tyT c t) (pointer (some ⟨adT A c t,0,none⟩)))/\Calls ZP 320 #[pointer (some ⟨adT A c t,0,none⟩)] U λe w'=>e=.returned (.int .u8 (phT c s t:Nat))/\Bt U w'):=λU hU=>by have hu:=hG.bel hU;exact⟨hu.ceP 15 _ λ_=>rfl,λt ht=>hu.low λo1 h1=>⟨h1.task t ht,aqx U h1 aw hl t ht⟩⟩
 obtain⟨N,hN⟩:∃N,c.W+3=N:=⟨_,rfl⟩;have bY:N<=100:=by have:=aw.W;omega
 rw[hN]at HT⊢;have bF:=AA hq;clear h hG hl hx hu hN aw hq;go_enter func34,ntmps34;go_upto_region 1 with fail
 rw[<-hD];have ad:Hid (W.heap.size<D.heap.size/\D.heap[W.heap.size]?=some (.cells #[slice none 0 0,int i64 0,int i64 0,slice none 0 0,slice none 0 0,int i64 0,slice none 0 0,int i64 0,bool false,bool false,bool false,int i64 0] 63 (0,0))):=by rw[hD];exact⟨by simp,AT _ _⟩
 have bi:=AA ag;obtain⟨R0,al⟩:∃R,W.heap.size=R:=⟨_,rfl⟩;have bE:=AA al;rw[al]at ad⊢;clear hD ag;go_upto_region 3 with fail
 refine Vb ?_;refine Va (S:=Bt D) kr (AN D 1) (λhHeld=>?_);obtain⟨w8,aT⟩:∃X,X=D.drew:=⟨_,rfl⟩;rw[<-aT]at hHeld⊢;clear aT;refine tkB 0 J.out ?_;refine tkB 1 J.out ?_;refine tkB 2 J.out ?_;refine tkB 3 J.out ?_;refine tkB 5 J.out ?_;refine tkB 6 J.out ?_;refine tkB 7 J.out ?_;refine tkB 8 J.out ?_;refine tkB 9 J.out ?_;refine tkB 10 J.out ?_;refine tkB 11 J.out ?_;refine tkB 12 J.out ?_;refine tkB 14 J.out ?_;refine tkB 15 J.out ?_;refine tkB 16 J.out ?_;refine tkB 17 J.out ?_;refine tkB 19 J.out ?_;refine tkB 20 J.out ?_;refine tkB 21 J.out ?_;refine tkB 22 J.out ?_;refine tkB 24 J.out ?_;refine tkB 25 J.out ?_;refine tkB 26 J.out ?_;refine tkB 27 J.out ?_;refine tkB 29 J.out ?_;refine tkB 30 J.out ?_;refine tkB 31 J.out ?_;refine tkB 32 J.out ?_;refine tkB 34 J.out ?_;refine tkB 35 J.out ?_;refine tkB 36 J.out ?_;refine tkB 37 J.out ?_;refine tkB 39 J.out ?_;refine tkB 40 J.out ?_;refine tkB 41 J.out ?_;refine tkB 42 J.out ?_;refine tkB 43 J.out ?_;refine tkB 44 J.out ?_;refine tkB 45 J.out ?_;refine tkB 46 J.out ?_;refine apJ 48 (λv V=>∃p,v=pointer (some ⟨p,0,none⟩)/\V.heap[p]?=some (.cells #[slice none 0 0,int i64 0,int i64 0,slice none 0 0,slice none 0 0,int i64 0,slice none 0 0,int i64 0,bool false,bool false,bool false,int i64 0] 63 (0,0))/\D.heap.size<=p) ?_ ?_ (λF=>?_)
 ·rintro _ V V' ⟨p,rfl,b,h⟩ C;exact⟨p,rfl,(C.block _ (AD.1 b).1).trans b,h⟩
 ·intro f V Z _ K I;go_simp;exact I _ _ (Z.alloc Z.size _) ⟨_,rfl,AT _ _,Z.size⟩ (AL _ _)
 refine Oo F 4 (λv _=>v=int i64 (s.next:Int)) ?_ ?_
 ·rintro f (rfl|⟨vk,rfl⟩) V Z-K I<;>(try simp only[pq]at I⊢)<;>go_simp<;>(go_at_call 66;refine(bs.out V Z).mono ?_;rintro e V2 ⟨rfl,rfl⟩;exact I _ _ Z rfl (AH _ _))
 rintro _ w1 hHeld-rfl
 try simp only[pq]
 refine Oo F 13 (λv V=>(∃a n cc,v=slice a n cc)/\FR V D.heap.size v ((Ga s.next s.rg c.R).map λx:Nat=>(x:Int))) ?_ ?_
 ·rintro f (rfl|⟨vk,rfl⟩) V Z-K I<;>(try simp only[pq]at I⊢)<;>go_simp<;>(go_at_call 67;refine(bq.out V Z).mono ?_;rintro e V2 ⟨v,rfl,ho,Y⟩;exact I _ _ (Z.trans (Y.mono Z.size)) ⟨by obtain⟨a,cc,h⟩:=aqP ho;exact⟨_,_,_,h⟩,NC ho Z.size⟩ Y)
 rintro _ w2 hHeld-⟨⟨a4,n4,c4,rfl⟩,H⟩
 try simp only[pq]
 refine Oo F 18 (λv _=>v=int i64 (s.out.length:Int)) ?_ ?_
 ·rintro f (rfl|⟨vk,rfl⟩) V Z-K I<;>(try simp only[pq]at I⊢)<;>go_simp<;>(go_at_call 68;refine(bp.out V Z).mono ?_;rintro e V2 ⟨rfl,Y⟩;exact I _ _ (Z.trans (Y.mono Z.size)) rfl Y)
 rintro _ w3 hHeld C rfl
 replace H:=DJ H C
 clear C
 try simp only[pq]
 refine Oo F 23 (λv V=>(∃a n cc,v=slice a n cc)/\FR V D.heap.size v (Oy s.us s.us.length)) ?_ ?_
 ·rintro f (rfl|⟨vk,rfl⟩) V Z-K I<;>(try simp only[pq]at I⊢)<;>go_simp<;>(go_at_call 69;refine(bo.out V Z).mono ?_;rintro e V2 ⟨v,rfl,ho,Y⟩;exact I _ _ (Z.trans (Y.mono Z.size)) ⟨by obtain⟨a,cc,h⟩:=aqP ho;exact⟨_,_,_,h⟩,NC ho Z.size⟩ Y)
 rintro _ w4 hHeld C ⟨⟨a6,n6,c6,rfl⟩,z⟩
 replace H:=DJ H C
 clear C
 try simp only[pq]
 refine Oo F 28 (λv _=>v=int i64 (s.fr.length:Int)) ?_ ?_
 ·rintro f (rfl|⟨vk,rfl⟩) V Z-K I<;>(try simp only[pq]at I⊢)<;>go_simp<;>(go_at_call 70;refine(bm.out V Z).mono ?_;rintro e V2 ⟨rfl,rfl⟩;exact I _ _ Z rfl (AH _ _))
 rintro _ w5 hHeld C rfl
 replace H:=DJ H C
 replace z:=DJ z C
 clear C
 try simp only[pq]
 refine Oo F 33 (λv _=>v=bool s.shut) ?_ ?_
 ·rintro f (rfl|⟨vk,rfl⟩) V Z-K I<;>(try simp only[pq]at I⊢)<;>go_simp<;>(go_at_call 71;refine(bl.out V Z).mono ?_;rintro e V2 ⟨rfl,Y⟩;exact I _ _ (Z.trans (Y.mono Z.size)) rfl Y)
 rintro _ w6 hHeld C rfl
 replace H:=DJ H C
 replace z:=DJ z C
 clear C
 try simp only[pq]
 refine Oo F 38 (λv _=>v=bool s.ended) ?_ ?_
 ·rintro f (rfl|⟨vk,rfl⟩) V Z-K I<;>(try simp only[pq]at I⊢)<;>go_simp<;>(go_at_call 72;refine(bk.out V Z).mono ?_;rintro e V2 ⟨rfl,Y⟩;exact I _ _ (Z.trans (Y.mono Z.size)) rfl Y)
 rintro _ w7 hHeld C rfl
 replace H:=DJ H C
 replace z:=DJ z C
 clear C
 try simp only[pq]
 obtain⟨B,a2⟩:∃X:Array Value,#[slice none 0 0,int i64 (s.next:Int),int i64 (s.number:Int),slice none 0 0,slice a4 n4 c4,int i64 (s.out.length:Int),slice a6 n6 c6,int i64 (s.fr.length:Int),bool s.shut,bool s.ended,bool s.cancelled,int i64 (s.read:Int)]=X:=⟨_,rfl⟩;have bh:Hid (ZP.built 63 [(1,int i64 (s.next:Int)),(2,int i64 (s.number:Int)),(4,slice a4 n4 c4),(5,int i64 (s.out.length:Int)),(6,slice a6 n6 c6),(7,int i64 (s.fr.length:Int)),(8,bool s.shut),(9,bool s.ended),(10,bool s.cancelled),(11,int i64 (s.read:Int))]=some B):=by rw[Hid,<-a2];exact arg _ _ _ _ _ _ _ _ _ _ _ _ _ _
 have aM:=AA a2;have aq:Hid (B.size=12):=by rw[Hid,<-a2];rfl
 have b9:Hid (B.all (·.oneCell')=true):=by rw[Hid,<-a2];simp[Value.oneCell']
 have b7:Hid ((ZP.info? 63).map (·.size)=some B.size):=by rw[Hid,aq.out];kernel_rfl
 clear a2;refine apH F 47 (v:=.agg B) ?_ ?_
 ·rintro f (rfl|⟨vk,rfl⟩)<;>(try simp only[pq])<;>exact Iz (by rfl) _ _ rfl B (by go_simp;exact bh.out)
 try simp only[pq]
 refine apI F ?_;rintro _ w9 hHeld C-⟨p,rfl,bP,hp⟩
 replace H:=DJ H C
 replace z:=DJ z C
 clear C F
 try simp only[pq]
 refine rdy 49 (λK I=>?_);rw[Lc (by rfl)];refine wp_store_row 63 _ _ rfl p B (by rfl) (by rfl) 63 _ bP b7.out (by rw[aq.out];rfl) b9.out ?_;refine I.out _ _ (MF hHeld hp _) (λa8=>?_);clear I K
 try simp only[pq]
 refine Vd kr ?_ _;refine At ?_;obtain⟨X1,ai⟩:∃X,X=w9.setRow p B:=⟨_,rfl⟩;have bX:X1.heap[p]?=some (.cells B 63 (0,0)):=by rw[ai];exact setRow_heap w9 p _ _ _ _ bP
 have cX:Chg (λk=>k=p) w9 X1:=by rw[ai];exact⟨rfl,rfl,rfl,by simp,λk _ hk=>setRow_other w9 p k _ hk⟩
 have ay:(slice a4 n4 c4).ownBlock≠some p:=Pa H bP (by decide);have ax:(slice a6 n6 c6).ownBlock≠some p:=Pa z bP (by decide);have b3:Hid (FR X1 D.heap.size (slice a4 n4 c4) ((Ga s.next s.rg c.R).map λx:Nat=>(x:Int))):=PI H cX ay;have b2:Hid (FR X1 D.heap.size (slice a6 n6 c6) (Oy s.us s.us.length)):=PI z cX ax;rw[<-ai]at a8⊢;have aV:p<X1.heap.size:=(AD.1 bX).1;have ar:Hid ((slice a4 n4 c4).ownBlock≠some p/\(slice a6 n6 c6).ownBlock≠some p):=⟨ay,ax⟩;have bg:=AA bX;have a7:=AA a8;have ac:Hid (D.heap.size<=p/\p<X1.heap.size):=⟨hp,aV⟩;clear ai cX H z bP hHeld ay ax bs bq bp bo bm bl bk bh b9 b7 bX aV hp;obtain⟨f15,_⟩:=HT.out X1 a8;go_upto_region 5 with fail
 clear f15 a8
 go_loopw[64] (λav wr=>∃(i:Nat)(v0:Value),i<=N/\av=int i64 i/\Hid (VwL X1 p 0 B 5 v0 i ((phF c s i).map (Value.int .u8)) wr)) (λav _=>N-(intOf av).toNat)
 case atStart=>
  refine⟨0,slice none 0 0,AR _,rfl,.refl _ _,?_,BN _ _ _ _⟩;rw[bg.out,<-aM.out]
  rfl
 case round=>
  obtain⟨i,v0,bR,rfl,y⟩:=hrel;have HD:Hid (Bt D wr):=a7.out.trans (y.out.c.below a7.out.size λk hk=>by have:=ac.out.1;omega)
  by_cases aY:i<N
  ·have hd:decide ((i:Int)<N)=true:=by simp;omega
   obtain⟨-,hk⟩:=HT.out wr HD.out;obtain⟨aU,-⟩:=hk i aY;obtain⟨ty,aD⟩:∃ty,tyT c i=ty:=⟨_,rfl⟩;have bN:∀n T w,Sem.run ZP (method (n+1) ty (pointer (some ⟨T,0,none⟩)) "teasel/pool.phase") w=.ok (320,pointer (some ⟨T,0,none⟩)) w:=λn T w=>by rw[<-aD];exact ar2 _ (Jv c i) n T w
   obtain⟨T,aJ⟩:∃T,adT A c i=T:=⟨_,rfl⟩;obtain⟨ph,aF⟩:∃x,phT c s i=x:=⟨_,rfl⟩;have HQ:Hid (∀V,Bt D V->Calls ZP 320 #[pointer (some ⟨T,0,none⟩)] V λe w'=>e=.returned (.int .u8 (ph:Nat))/\Bt V w'):=λV Z=>by have:=((HT.out V Z).2 i aY).2;rw[aJ,aF]at this;exact this
   have aL:Hid ((phF c s (i+1)).map (Value.int .u8)=(phF c s i).map (Value.int .u8)++[.int .u8 (ph:Nat)]):=by rw[Hid,aqX,aF,Aj];rfl
   rw[aD,aJ]at aU;obtain⟨a0,c0,rfl,_,_,_⟩:=Gy y.out.r;have i1:(0:Int)<=(i:Int):=by omega
   have i2:(i:Int)<(N:Int):=by omega
   clear hk aD aJ aF;go_upto_region 7 with fail
   obtain⟨U0,ak⟩:∃X,X=wr.drew:=⟨_,rfl⟩;have aI:Bt wr U0:=by rw[ak];exact AN wr 1
   have b4:=AA (y.out.bel aI);have be:=AA (HD.out.trans (aI.mono HD.out.size));have bG:Hid (∀V,Bt U0 V->V.cell? ⟨p,0,none⟩=some (slice a0 i c0)):=λV Z=>(b4.out.bel Z).cell (by rw[aq.out];decide);clear aU aI y HD;refine Vb ?_;refine Va (S:=Bt D) kr (by rw[<-ak];exact be.out) (λam=>?_);rw[<-ak];clear ak am;have bW:=be.out;refine tkA 0 ?_;refine tkA 2 ?_;refine arh 1 (λv _=>v=slice a0 i c0) (λf=>f.tmps[68]?.getD undef=pointer (some ⟨p,0,none⟩)) (λ_ _ _ h _=>h) ?_ (λF=>?_)
   ·intro f V hG Z h0 K I;have q0:=bG.out V h0;go_simp;exact I _ _ Z rfl (AH _ _)
   refine Oo F 3 (λv _=>v=.int .u8 (ph:Nat)) ?_ ?_
   ·rintro f (rfl|⟨vk,rfl⟩) V Z-K I<;>(try simp only[pq]at I⊢)<;>go_simp<;>(go_at_call 320;refine(HQ.out V Z).mono ?_;rintro e V2 ⟨rfl,Y⟩;exact I _ _ (Z.trans (Y.mono Z.size)) rfl Y)
   rintro _ u1 bV-rfl
   try simp only[pq]
   refine Oo F 4 (λv V=>∃q,v=slice (some ⟨q,0,none⟩) 1 1/\V.heap[q]?=some (.cells #[.int .u8 (ph:Nat)] 5 (0,0))) ?_ ?_
   ·rintro f (rfl|⟨vk,rfl⟩) V Z-K I<;>(try simp only[pq]at I⊢)<;>go_simp<;>exact I _ _ (Z.alloc Z.size _) ⟨_,rfl,AT _ _⟩ (AL _ _)
   rintro _ u2 bU-⟨q,rfl,hq⟩
   try simp only[pq]
   refine apI F ?_;rintro _ u3 bT ab ag rfl
   try simp only[pq]
   obtain⟨i0,hi,aB,aA,az⟩:=Ve aqU;obtain⟨a1,c1,W1,hr,aH,bv,bx,ae⟩:=b4.out.app (ty:=32) ac.out.2 (by rw[aq.out];decide) ag ((ab.block q (AD.1 hq).1).trans hq) rfl om underlying32 hi aB aA az (by decide) rfl;have HR:=AA hr;have aK:=AA ae;have ad:Hid (Bt D W1):=a7.out.trans (aH.below a7.out.size λk hk=>by have:=ac.out.1;omega);have bJ:Hid (Bt D (W1.setCell ⟨p,0,none⟩ (.slice a1 (i+1) c1))):=a7.out.trans (ae.c.below a7.out.size λk hk=>by have:=ac.out.1;omega);refine rdy 5 (λK I=>?_);refine GU (.tmp 69) (.tmp 72) 32 rfl _ _ rfl rfl rfl HR.out ?_;refine I.out _ _ ad.out (λh5=>?_);clear I K
   try simp only[pq]
   refine tkA 6 ?_;refine rdy 7 (λK I=>?_);go_simp;refine I.out _ _ bJ.out (λh7=>?_);clear I K
   try simp only[pq]
   refine Vd kr ?_ _;refine At ?_;go_wp2
   go_roundw
   case rel=>exact⟨i+1,_,by omega,by go_num,by rw[aL.out];exact aK⟩
   case measure=>simp[intOf];omega
  ·obtain rfl:i=N:=by omega
   have hd:decide ((i:Int)<i)=false:=by simp
   obtain⟨a0,c0,rfl,_,_,_⟩:=Gy y.out.r;have aS:(slice a0 i c0).ownBlock≠some p:=λe=>by have:=(Gw y.out.r p e).1;have:=ac.out.2;omega
   obtain⟨l,hl,af⟩:=bj.out wr HD.out;have HL:=AA hl;have bf:=AA af;obtain⟨_,bt,_,_,_,_,_⟩:=J.out wr HD.out;clear hl af HT bj;go_upto_region 10 with(go_at_call 73;refine bf.out.mono ?_;rintro e w3 ⟨vp,rfl,hP,ab⟩;obtain⟨ap,cp,rfl,_,aE⟩:=SlK.own hP)
   have aQ:Hid (Bt D w3):=HD.out.trans (ab.mono HD.out.size);have cW:Chg (λk=>k=p) X1 w3:=y.out.c.same ab;have ah:=AA (y.out.bel ab);have aW:=(AD.1 ah.out.b).1;have bC:Hid (w3.ownsRow D.heap.size 5 1 (slice a0 i c0) i ((phF c s i).map (Value.int .u8))):=NC ah.out.r a7.out.size;have bB:Hid (FR w3 D.heap.size (slice a4 n4 c4) ((Ga s.next s.rg c.R).map λx:Nat=>(x:Int))):=PI b3.out cW ar.out.1;have bA:Hid (FR w3 D.heap.size (slice a6 n6 c6) (Oy s.us s.us.length)):=PI b2.out cW ar.out.2;have aG:=Pa hP ah.out.b (by decide);obtain⟨n,hn⟩:∃n,l.length=n:=⟨_,rfl⟩;rw[hn]at aE aG⊢;have b8:Hid ((slice ap n cp).ownBlock≠some p/\(slice a0 i c0).ownBlock≠some p):=⟨aG,aS⟩;have bD:=AA aE;have bM:n<=1000000:=by have h1:=congrArg List.length HL.out;rw[BP,BP,hn]at h1;rw[h1];exact bF.out
   have aN:=AA hn;have b6:=AA aW;obtain⟨C2,ao⟩:∃X:Array Value,B.setIfInBounds 0 (slice a0 i c0)=X:=⟨_,rfl⟩;have aR:Hid (C2.setIfInBounds 3 (slice none 0 0)=C2/\C2.size=12):=by rw[Hid,<-ao,<-aM.out];exact⟨rfl,rfl⟩
   have Y:=ah.out.b;rw[ao]at Y;have bL:=AA Y;have bK:=AA ao;clear ab hP aE hn ao Y aG aS cW bt J b3 b2 y HD ah bg bf aW
   go_loopw[82] (λau wr=>∃(j:Nat)(v3:Value),j<=n/\au=int i64 j/\Hid (VwL w3 p 3 C2 3 v3 j ((l.take j).map λq=>int i64 q.num) wr)) (λau _=>n-(intOf au).toNat)
   case atStart=>exact⟨0,slice none 0 0,AR _,rfl,.refl _ _,by rw[aR.out.1];exact bL.out,BN _ _ _ _⟩
   case round=>
    obtain⟨j,v3,bO,rfl,y⟩:=hrel;have HD:Hid (Bt D wr):=aQ.out.trans (y.out.c.below aQ.out.size λk hk=>by have:=ac.out.1;omega)
    by_cases bQ:j<n
    ·have bw:decide ((j:Int)<n)=true:=by simp;omega
     obtain⟨x,hx⟩:∃x,l[j]?=some x:=⟨_,Ar (by have:=aN.out;omega)⟩;obtain⟨y0,y1,y2,y3,y4⟩:=ag4 hx;obtain⟨b,o,e,aX,hc⟩:=bD.out.2.resolve_left om;subst e;have aa:wr.heap[b]?=w3.heap[b]?:=y.out.c.block b aX λe=>b8.out.1 (by rw[e];rfl);have z0:wr.cell? ⟨b,o+j*5,none⟩=some (int i64 x.num):=(BC (a:=⟨b,o+j*5,none⟩) aa).trans (hc _ _ y0);have z1:wr.cell? ⟨b,o+j*5+1,none⟩=some (int i64 x.start):=(BC (a:=⟨b,o+j*5+1,none⟩) aa).trans (hc _ _ y1);have z2:wr.cell? ⟨b,o+j*5+2,none⟩=some (int i64 x.warm):=(BC (a:=⟨b,o+j*5+2,none⟩) aa).trans (hc _ _ y2);have z3:wr.cell? ⟨b,o+j*5+3,none⟩=some (slice x.a x.m x.c):=(BC (a:=⟨b,o+j*5+3,none⟩) aa).trans (hc _ _ y3);have z4:wr.cell? ⟨b,o+j*5+4,none⟩=some (int i64 x.buf):=(BC (a:=⟨b,o+j*5+4,none⟩) aa).trans (hc _ _ y4);have i1:(0:Int)<=(j:Int):=by omega
     have i2:(j:Int)<(n:Int):=by omega
     clear y0 y1 y2 y3 y4 hc aa aX;go_upto_region 12 with fail
     obtain⟨a3,c3,rfl,_,_,_⟩:=Gy y.out.r;obtain⟨V1,aj⟩:∃X,X=wr.alloc (.cells #[int i64 x.num,int i64 x.start,int i64 x.warm,slice x.a x.m x.c,int i64 x.buf] 126):=⟨_,rfl⟩;have b0:Bt wr V1:=by rw[aj];exact AL _ _
     have hg:V1.heap[wr.heap.size]?=some (.cells #[int i64 x.num,int i64 x.start,int i64 x.warm,slice x.a x.m x.c,int i64 x.buf] 126 (0,0)):=by rw[aj];exact AT _ _
     have bu:wr.heap.size≠p:=by have:=b6.out;have:=y.out.c.size;omega
     rw[<-aj];obtain⟨g,aZ⟩:∃g,wr.heap.size=g:=⟨_,rfl⟩;have aC:=y.out.bel b0;have b1:=AL V1 (.cells #[.int .i64 x.num] 3);obtain⟨i0,hi,aB,aA,az⟩:=Ve aqM;obtain⟨a1,c1,W1,hr,aH,bv,bx,ae⟩:=aC.app (ty:=30) b6.out (by rw[aR.out.2];decide) b1 (AT V1 (.cells #[.int .i64 x.num] 3)) rfl om underlying30 hi aB aA az (by decide) rfl;have HR:=AA hr;have aL:Hid (((l.take (j+1)).map λq=>Value.int .i64 q.num)=((l.take j).map λq=>Value.int .i64 q.num)++[.int .i64 x.num]):=by rw[Hid,LH,hx,Aj];rfl
     have aK:Hid (VwL w3 p 3 C2 3 (slice a1 (j+1) c1) (j+1) ((l.take (j+1)).map λq=>int i64 q.num) (W1.setCell ⟨p,3,none⟩ (slice a1 (j+1) c1))):=by rw[Hid,aL.out];exact ae
     have q0:=aC.cell (show 3<C2.size by rw[aR.out.2];decide);rw[aZ]at hg⊢;have q1:V1.cell? ⟨g,0,none⟩=some (int i64 x.num):=by simp[cell?,hg]
     clear z0 z1 z2 z3 z4 y HD aj b0 hg bu aZ hx aC b1 hr aH ae
     go_wp2_with (at_builtin;refine aaf rfl (.tmp 87) (.tmp 91) 30 rfl rfl rfl HR.out ?_)
     go_roundw
     case rel=>exact⟨j+1,_,by omega,by go_num,aK⟩
     case measure=>simp[intOf];omega
    ·obtain rfl:j=n:=by omega
     have bw:decide ((j:Int)<j)=false:=by simp
     obtain⟨a3,c3,rfl,_,_,_⟩:=Gy y.out.r;obtain⟨F,hF⟩:∃X:Array Value,C2.setIfInBounds 3 (slice a3 j c3)=X:=⟨_,rfl⟩;have C:=y.out.b;rw[hF]at C;have bH:=AA C;have aP:Hid (F=#[slice a0 i c0,int i64 (s.next:Int),int i64 (s.number:Int),slice a3 j c3,slice a4 n4 c4,int i64 (s.out.length:Int),slice a6 n6 c6,int i64 (s.fr.length:Int),bool s.shut,bool s.ended,bool s.cancelled,int i64 (s.read:Int)]):=by
      rw[Hid,<-hF,<-bK.out,<-aM.out]
      rfl
     have bd:Hid (F.size=12):=by rw[Hid,aP.out];rfl
     have aO:Hid ((ZP.info? 63).map (·.size)=some F.size):=by rw[Hid,bd.out];kernel_rfl
     have bI:Hid (F.all (·.oneCell')=true):=by rw[Hid,aP.out];simp[Value.oneCell']
     have b5:Hid (wr.heap[R0]?=some (.cells #[slice none 0 0,int i64 0,int i64 0,slice none 0 0,slice none 0 0,int i64 0,slice none 0 0,int i64 0,bool false,bool false,bool false,int i64 0] 63 (0,0))):=(HD.out.block _ ad.out.1).trans ad.out.2;have HE:=AA al;have bb:Hid ((l.take j).map (λq=>int i64 q.num)=(s.q.map λb=>(b.num:Int)).map (int i64)/\j=(s.q.map λb=>(b.num:Int)).length):=by
      have h1:=HL.out;refine⟨?_,?_⟩
      ·rw[Ap (by have:=aN.out;omega),<-h1,List.map_map]
       rfl
      ·rw[<-h1,BP];exact aN.out.symm
     clear hF C al;go_upto_region 14 with fail
     go_wp2_with (first
      |(refine wpList_load_row rfl 63 _ rfl p rfl 63 F (0,0) _ bH.out underlying63 rfl aO.out ?_)
      |(refine wpList_store_row rfl 63 _ _ rfl R0 F rfl rfl 63 _ b5.out aO.out (by rw[bd.out];rfl) bI.out ?_))
     refine Vf (results_cell_row rfl _ _ R0 63 F (0,0) _ (by rfl) (setRow_heap wr R0 _ _ _ _ b5.out) underlying63 rfl aO.out) rfl ?_;have bz:W.heap.size<=D.heap.size:=bi.out.size;have rs:∀{e:TypeId}{m base:Nat}{v:Value}{xs:List Value},D.heap.size<=base->wr.ownsRow base e 1 v m xs->(wr.setRow R0 F).ownsRow W.heap.size e 1 v m xs:=λbS h=>NC (Fu h λk hk=>setRow_other wr R0 k F (by have:=(Gw h k hk).1;have:=ad.out.1;omega)) om;have r3:=rs aQ.out.size y.out.r;rw[bb.out.1]at r3;refine⟨.slice a0 i c0,.slice a3 j c3,.slice a4 n4 c4,.slice a6 n6 c6,by rw[aP.out],rs (AC _) (PI bC.out y.out.c b8.out.2),?_,rs (AC _) (PI bB.out y.out.c ar.out.1),rs (AC _) (PI bA.out y.out.c ar.out.2),MF (bi.out.trans (HD.out.mono bz)) (by have:=bE.out;omega) F⟩;unfold FR;rw[<-bb.out.2];exact r3
structure VwX where
 ph:List Int
 next:Int
 number:Int
 q:List Int
 rg:List Int
 out:Int
 live:List Int
 free:Int
 shut:Bool
 ended:Bool
 canc:Bool
 read:Int
def Br(c:CfM)(s:PlM):VwX:=⟨phF c s (c.W+3),s.next,s.number,s.q.map λb=>(b.num:Int),(Ga s.next s.rg c.R).map λx:Nat=>(x:Int),s.out.length,Oy s.us s.us.length,s.fr.length,s.shut,s.ended,s.cancelled,s.read⟩
structure VwS(w:World)(m:Nat)(v0 v3 v4 v6:Value)(x:VwX):Prop where
 r0:w.ownsRow m 5 1 v0 x.ph.length (x.ph.map (Value.int .u8))
 r3:FR w m v3 x.q
 r4:FR w m v4 x.rg
 r6:FR w m v6 x.live
 by_:∀a∈x.ph,0<=a/\a<=255
 ln:x.q.length<=1000000/\x.rg.length<=1000000/\x.live.length<=1000000/\x.ph.length<=1000000
abbrev vwC(v0 v3 v4 Z:Value)(x:VwX):Array Value:=#[v0,int i64 x.next,int i64 x.number,v3,v4,int i64 x.out,Z,int i64 x.free,bool x.shut,bool x.ended,bool x.canc,int i64 x.read]
theorem VwS.keep{Y:Nat->Prop}{w w':World}{m:Nat}{v0 v3 v4 Z:Value}{x:VwX}(h:VwS w m v0 v3 v4 Z x)(V:Chg Y w w')(X:∀k,m<=k->k<w.heap.size->¬Y k):VwS w' m v0 v3 v4 Z x:=
 have rs:∀{e:TypeId}{n:Nat}{v:Value}{xs:List Value},w.ownsRow m e 1 v n xs->w'.ownsRow m e 1 v n xs:=λh=>Fu h λk hk=>V.block k (Gw h k hk).2 (X k (Gw h k hk).1 (Gw h k hk).2)
 ⟨rs h.r0,rs h.r3,rs h.r4,rs h.r6,h.by_,h.ln⟩
theorem VwS.below{w w':World}{m:Nat}{v0 v3 v4 Z:Value}{x:VwX}(h:VwS w m v0 v3 v4 Z x)(X:Bt w w'):VwS w' m v0 v3 v4 Z x:=h.keep (Y:=λ_=>False) (.of_same X) λ_ _ _ h=>h
theorem aqn(n:Nat)(rg:List (Option (List AF))):∀j,(Ga n rg j).length<=j
 |0=>AC _
 |j+1=>by
  have:=aqn n rg j;unfold Ga;rw[List.length_append]
  split<;>simp<;>omega
theorem aqY{A:PAd}{c:CfM}{s:PlM}{o:Nat->Nat}(W:World)(h:AI A c o s W)(Z:OkC c)(ok:OkM c s)(V:EE c s) :Calls ZP 34 #[pointer (some ⟨A.P,0,none⟩)] W λe w'=>∃v0 v3 v4 Y,e=.returned (.agg (vwC v0 v3 v4 Y (Br c s)))/\VwS w' W.heap.size v0 v3 v4 Y (Br c s)/\Bt W w':=by
 have h1:=V.b.ul;have h2:=Z.R;have h3:=V.a.f.ql;have h4:=Z.Q;refine(aqy W W h.g Z ok.wl ok.nxt om om).mono ?_;rintro e w' ⟨v0,v3,v4,Y,rfl,r0,r3,r4,r6,N⟩;refine⟨v0,v3,v4,Y,rfl,⟨?_,r3,r4,r6,λa ha=>?_,?_,?_,?_,?_⟩,N⟩
 ·have e:(Br c s).ph.length=c.W+3:=aqN _ _ _;rw[e];exact r0
 ·have ha:a∈phF c s (c.W+3):=ha;unfold phF at ha;obtain⟨t,_,rfl⟩:=Be.1 ha;have X:=V.a.r;unfold phT
  split
  ·have:=X.ph;omega
  ·split
   ·unfold phW
    split
    ·omega
    ·rename_i x U
     have:=X.wp _ x U;omega
   ·split
    ·have:=X.mp;omega
    ·have:=X.ep;omega
 ·show(s.q.map λb=>(b.num:Int)).length<=1000000;rw[BP];omega
 ·show((Ga s.next s.rg c.R).map λx:Nat=>(x:Int)).length<=1000000;rw[BP];have:=aqn s.next s.rg c.R;omega
 ·show(Oy s.us s.us.length).length<=1000000;have:=PN s.us s.us.length;omega
 ·show(phF c s (c.W+3)).length<=1000000;rw[aqN];have:=Z.W;omega
theorem aqr{A:PAd}{c:CfM}{s:PlM}{o:Nat->Nat}(w W:World)(h:AE A c o s w W)(j:s.took.length<=1000000) :Calls ZP 41 #[pointer (some ⟨A.P,0,none⟩)] W λe w'=>∃v,e=.returned v/\Ax w' W.heap.size v s.took/\Bt W w':=by
 obtain⟨a,n,Z,X,U,Y⟩:∃a n Z,s.took.length=n/\W.cell? ⟨A.P,18,none⟩=some (slice a n Z)/\SlK 2 W a n (AV s.took):=h.low λx h1=>by obtain⟨y,I,g2,J,g4⟩:=h1.part 1 om;obtain⟨a,Z,rfl,_,Y⟩:=SlK.own J.1;exact⟨a,_,Z,rfl,by simp only[cell?,I];rfl,Y⟩
 have C:=AA (aqB a n Z (AV s.took) W Y (λu N=>MC _ u N) om);have D:=AA X;clear h Y X;go_enter func41,ntmps41
 go_wp2_with (go_at_call 77;refine C.out.mono ?_;rintro e z ⟨v,rfl,ho,V⟩;have H:=AA ho;have B:=AA V;clear ho V)
 go_ret;refine⟨_,rfl,?_,B.out⟩;have:=H.out;rw[<-D.out]at this;exact this
def Ow(c:CfM)(s:PlM):Int×Int:=if Fd s=true then(if s.cancelled then(3,0) else if c.br then(4,s.read) else(2,0)) else(1,0)
theorem PQ{fn:Func}{p:Tmp}{tmps:Array Value}{W:World}{B:Nat}{x y:Value}(h:fn.results=#[.cell p 66])(Y:tmps.getD p undef=pointer (some ⟨B,0,none⟩))(hB:W.heap[B]?=some (.cells #[x,y] 66 (0,0))) :(results fn tmps).run ZP W=.ok (.agg #[x,y]) W:=by
 have X:(loadVar 66 ⟨B,0,none⟩).run ZP W=.ok (.agg #[x,y]) W:=run_loadVar_row W B 66 66 #[x,y] (0,0) _ hB underlying66 rfl kr;have Z:tmps[p]?.getD undef=.pointer (some ⟨B,0,none⟩):=by simpa using Y
 simp[results,h,Z,asAddr,X,Result.andThen]
def Ou(c:CfM)(s:PlM)(z:Int):Bool:=decide (0<=z)&&decide (z<(c.W+3:Nat))&&Bj c s z.toNat
def PA(c:CfM)(s:PlM)(z:Int):PlM:=if Ou c s z=true then Bi c s z.toNat else s
theorem aqG{A:PAd}{c:CfM}{s:PlM}{o:Nat->Nat}(w W:World)(h:AE A c o s w W)(X:OkC c)(ok:OkM c s)(t:Nat)(U:t<c.W+3)(J:Bj c s t=false) :Calls ZP 44 #[pointer (some ⟨A.P,0,none⟩),int i64 (t:Int)] W λe w'=>e=.returned (bool false)/\AE A c o s w w':=by
 obtain⟨N,I⟩:∃N,c.W+3=N:=⟨_,rfl⟩;have B:W.cell? ⟨A.P,15,none⟩=some (slice (some ⟨A.TT,0,none⟩) N A.tc):=h.ceP 15 _ λ_=>by rw[<-I];rfl
 have C:W.cell? ⟨A.TT,t,none⟩=some (.iface (tyT c t) (pointer (some ⟨adT A c t,0,none⟩))):=h.low λD h1=>h1.task t U;have H:Hid (Calls ZP 321 #[pointer (some ⟨adT A c t,0,none⟩)] W λe w'=>e=.returned (bool false)/\Bt W w'):=h.low λD h1=>by
  have:=acu W h1 X ok t U
  rwa[J]at this
 obtain⟨ty,Z⟩:∃ty,tyT c t=ty:=⟨_,rfl⟩;have z:∀n T w,Sem.run ZP (method (n+1) ty (pointer (some ⟨T,0,none⟩)) "teasel/pool.ready") w=.ok (321,pointer (some ⟨T,0,none⟩)) w:=λn T w=>by rw[<-Z];exact agX _ (Jv c t) n T w
 obtain⟨T,Y⟩:∃T,adT A c t=T:=⟨_,rfl⟩;rw[Y]at H;rw[Z,Y]at C;have y:=AA h;have d0:decide ((t:Int)<0)=false:=by simp
 have d1:decide ((t:Int)>=(N:Int))=false:=by simp;omega
 have d2:decide ((N:Int)<=(t:Int))=false:=by simp;omega
 have d3:decide (N<=t)=false:=by simp;omega
 have i1:(0:Int)<=(t:Int):=by omega
 have i2:(t:Int)<(N:Int):=by omega
 clear h X ok U J I Y Z;go_enter func44,ntmps44
 go_wp2_with (go_at_call 321;refine H.out.mono ?_;rintro e j ⟨rfl,V⟩;have x:=AA V;clear V)
 go_ret;exact⟨rfl,y.out.bel x.out⟩
theorem aqo{A:PAd}{c:CfM}{s:PlM}{o:Nat->Nat}(w W:World)(h:AE A c o s w W)(z:Int)(Y:z<0∨(c.W+3:Nat)<=z) :Calls ZP 44 #[pointer (some ⟨A.P,0,none⟩),int i64 z] W λe w'=>e=.returned (bool false)/\AE A c o s w w':=by
 obtain⟨N,X⟩:∃N,c.W+3=N:=⟨_,rfl⟩;have U:W.cell? ⟨A.P,15,none⟩=some (slice (some ⟨A.TT,0,none⟩) N A.tc):=h.ceP 15 _ λ_=>by rw[<-X];rfl
 rw[X]at Y;have V:=AA h;clear h X
 by_cases h0:z<0
 ·have J:decide (z<0)=true:=Lz h0;clear Y;go_enter func44,ntmps44;go_wp2;go_ret;exact⟨rfl,V.out⟩
 ·have J:decide (z<0)=false:=decide_eq_false h0;have Z:(N:Int)<=z:=by omega
  have I:decide ((N:Int)<=z)=true:=Lz Z;clear Y;go_enter func44,ntmps44;go_wp2;go_ret;exact⟨rfl,V.out⟩
theorem aq2{A:PAd}{c:CfM}{s:PlM}{o:Nat->Nat}(w W:World)(h:AE A c o s w W)(Z:OkC c)(ok:OkM c s)(z:Int) :Calls ZP 44 #[pointer (some ⟨A.P,0,none⟩),int i64 z] W λe w'=>e=.returned (bool (Ou c s z))/\AE A c o (PA c s z) w w':=by
 unfold PA
 by_cases Y:z<0∨(c.W+3:Nat)<=z
 ·have e:Ou c s z=false:=by
   unfold Ou
   rcases Y with h1|h1
   ·rw[decide_eq_false (by omega:¬0<=z)];rfl
   ·rw[decide_eq_false (by omega:¬z<(c.W+3:Nat)),Bool.and_false];rfl
  rw[e,Lb (by decide)];exact aqo w W h z Y
 ·obtain⟨t,rfl⟩:∃t:Nat,z=t:=⟨z.toNat,by omega⟩;have X:t<c.W+3:=by omega
  have e:Ou c s (t:Int)=Bj c s t:=by
   unfold Ou;rw[Lz (by omega:(0:Int)<=t),Lz (by omega:(t:Int)<(c.W+3:Nat)),Aa]
   rfl
  rw[e,Aa]
  cases V:Bj c s t with
  |true=>rw[Lc rfl];exact ahX w W h Z ok t X V
  |false=>rw[Lb (by decide)];exact aqG w W h Z ok t X V
theorem aq9{A:PAd}{c:CfM}{s:PlM}{o:Nat->Nat}(w W:World)(h:AE A c o s w W)(y:OkC c)(hl:s.wk.length=c.W) :Calls ZP 37 #[pointer (some ⟨A.P,0,none⟩)] W λe w'=>e=.returned (.agg #[.int .u8 (Ow c s).1,int i64 (Ow c s).2])/\Bt W w':=by
 obtain⟨V,hV⟩:∃V,V=W.alloc (.cells #[.int .u8 0,int i64 0] 66):=⟨_,rfl⟩;have I:Bt W V:=by rw[hV];exact AL _ _
 have hG:=h.bel I;have HO:Hid (Calls ZP 16 #[pointer (some ⟨A.P,0,none⟩)] V λe w'=>e=.returned (bool (Fd s))/\Bt V w'):=hG.low λo1 h1=>ahx V h1 y hl;have z:Hid (∀U,Bt V U->U.cell? ⟨A.P,19,none⟩=some (bool s.cancelled)/\U.cell? ⟨A.P,9,none⟩=some (pointer (some ⟨A.S,0,none⟩))/\U.cell? ⟨A.P,17,none⟩=some (int i64 (s.read:Int))/\U.heap[W.heap.size]?=some (.cells #[.int .u8 0,int i64 0] 66 (0,0))/\Calls ZP 76 #[pointer (some ⟨A.S,0,none⟩)] U λe w'=>e=.returned (bool c.br)/\Bt U w'):=λU D=>by
  have hu:=hG.bel D;have N:V.heap[W.heap.size]?=some (.cells #[.int .u8 0,int i64 0] 66 (0,0)):=by rw[hV];exact AT _ _
  refine⟨hu.ceP 19 _ λ_=>rfl,hu.ceP 9 _ λ_=>rfl,hu.ceP 17 _ λ_=>rfl,(D.block _ (AD.1 N).1).trans N,hu.low λo1 h1=>?_⟩;obtain⟨a,n,cc,vs,g1,g2⟩:MM A c s (λk=>o1 k=2) U:=h1.part 2 om;exact aqc U g1
 have HB:=AA I;have a6:A.P≠W.heap.size:=h.low λo1 h1 e=>by obtain⟨tv,g1⟩:=h1.cP;have:=(AD.1 g1).1;omega
 obtain⟨O,hO⟩:∃b,Fd s=b:=⟨_,rfl⟩;obtain⟨C,hC⟩:∃b,s.cancelled=b:=⟨_,rfl⟩;obtain⟨B,hB⟩:∃b,c.br=b:=⟨_,rfl⟩;unfold Ow;rw[hO]at HO⊢;rw[hC,hB]at z⊢;obtain⟨S,hS⟩:∃S,W.heap.size=S:=⟨_,rfl⟩;rw[hS]at z a6;clear h hG y hl I hO hC hB
 cases O<;>cases C<;>cases B
 all_goals
  go_enter func37,ntmps37;go_upto_region 1 with fail
  rw[<-hV];have Z:=AA hS;clear hV hS;go_upto_region 3 with fail
  go_wp2_with fail
  refine HO.out.mono ?_;rintro e J ⟨rfl,X⟩;obtain⟨ab,k9,ac,N,x⟩:=z.out J X;have a8:=AA x;have HZ:=AA N;have z0:J.cell? ⟨S,0,none⟩=some (.int .u8 0):=by simp[cell?,N]
  have z1:J.cell? ⟨S,1,none⟩=some (int i64 0):=by simp[cell?,N]
  have y0:J.frozen? ⟨S,0,none⟩=false:=by simp[frozen?,N]
  have y1:J.frozen? ⟨S,1,none⟩=false:=by simp[frozen?,N]
  have yl:S<J.heap.size:=(AD.1 N).1;have X1:Hid (Bt W J):=by rw[Hid];exact HB.out.trans (X.mono HB.out.size)
  have a7:Hid (∀U,Bt J U->U.cell? ⟨A.P,17,none⟩=some (int i64 (s.read:Int))/\U.heap[S]?=some (.cells #[.int .u8 0,int i64 0] 66 (0,0))/\Bt W U):=λU D=>⟨(z.out U (X.trans (D.mono X.size))).2.2.1,(z.out U (X.trans (D.mono X.size))).2.2.2.1,X1.out.trans (D.mono X1.out.size)⟩;clear x N X HO z HB
  go_wp2_with (go_at_call 76;refine a8.out.mono ?_;rintro e H ⟨rfl,a1⟩;obtain⟨ad,Y,j⟩:=a7.out H a1;have a2:=AA Y;have z2:H.cell? ⟨S,0,none⟩=some (.int .u8 0):=(by simp[cell?,Y]);have z3:H.cell? ⟨S,1,none⟩=some (int i64 0):=(by simp[cell?,Y]);have y2:H.frozen? ⟨S,0,none⟩=false:=(by simp[frozen?,Y]);have y3:H.frozen? ⟨S,1,none⟩=false:=(by simp[frozen?,Y]);have aa:S<H.heap.size:=(AD.1 Y).1;have X2:=AA j;clear Y a1 j)
  first
   |exact Vf (PQ rfl rfl (by simpa using AJ (i:=1) (AJ (i:=0) HZ.out (.int .u8 1)) (int i64 0))) rfl ⟨rfl,(X1.out.setCell (by rw[Z.out];exact AC _) _).setCell (by rw[Z.out];exact AC _) _⟩
   |exact Vf (PQ rfl rfl (by simpa using AJ (i:=1) (AJ (i:=0) HZ.out (.int .u8 3)) (int i64 0))) rfl ⟨rfl,(X1.out.setCell (by rw[Z.out];exact AC _) _).setCell (by rw[Z.out];exact AC _) _⟩
   |exact Vf (PQ rfl rfl (by simpa using AJ (i:=1) (AJ (i:=0) a2.out (.int .u8 4)) (int i64 (s.read:Int)))) rfl ⟨rfl,(X2.out.setCell (by rw[Z.out];exact AC _) _).setCell (by rw[Z.out];exact AC _) _⟩
   |exact Vf (PQ rfl rfl (by simpa using AJ (i:=1) (AJ (i:=0) a2.out (.int .u8 2)) (int i64 0))) rfl ⟨rfl,(X2.out.setCell (by rw[Z.out];exact AC _) _).setCell (by rw[Z.out];exact AC _) _⟩
def cW(br:Bool)(ans:List Bool):CfM:=⟨2,3,2,1,1,2,0,3,scF false heW 2,br,ans⟩
def rW:La:=[[117,115,104],[],[101,114,115]]
def nW(n:Nat):List Int:=(List.range n).map λk:Nat=>(k:Int)
theorem aqL(n:Nat):nW (n+1)=nW n++[(n:Int)]:=by unfold nW;rw[El,Aj];rfl
theorem PR{c:CfM}(n:Int):∀(l:List Int)(s:PlM),PJ c s (l++[n])=Fi c (PJ c s l) n
 |[],s=>rfl
 |m::l,s=>PR n l (Fi c s m)
def sP(n:Nat):PlM:=PJ (cW false []) (Bn (cW false []) rW) (nW n)
def sQ(n:Nat):PlM:=PJ (cW true [false]) (Bn (cW true [false]) rW) (nW n)
def sE(n:Nat):PlM:=PJ (cW true [false]) (LN (sQ 200)) (List.replicate n 0)
theorem ard(n:Nat):sP (n+1)=Fi (cW false []) (sP n) n:=by unfold sP;rw[aqL,PR]
theorem arb(n:Nat):sQ (n+1)=Fi (cW true [false]) (sQ n) n:=by unfold sQ;rw[aqL,PR]
theorem ar7(n:Nat):sE (n+1)=Fi (cW true [false]) (sE n) 0:=by unfold sE;rw[List.replicate_succ',PR]
theorem PH:Fd (sP 200)=true/\(sP 200).took=[(4,1),(4,0),(5,2)]/\(sP 200).cancelled=false/\Bj (cW false []) (sP 200) 0=false:=by decide+kernel
theorem PK:Fd (sQ 200)=false/\(sQ 200).took=[]/\(II (cW true [false]) (sQ 200)).length=1/\(sQ 200).cancelled=false:=by decide+kernel
theorem PZ:Fd (sE 60)=true/\(sE 60).cancelled=true/\(II (cW true [false]) (sE 60)).length=0:=by decide+kernel
theorem ar8:(Br (cW true [false]) (sE 60)).ph=[5,4,4,3,2]/\(Br (cW true [false]) (sE 60)).next=2/\(Br (cW true [false]) (sE 60)).number=2/\(Br (cW true [false]) (sE 60)).q=[]/\(Br (cW true [false]) (sE 60)).rg=[]/\(Br (cW true [false]) (sE 60)).out=0/\(Br (cW true [false]) (sE 60)).live=[]/\(Br (cW true [false]) (sE 60)).free=2/\(Br (cW true [false]) (sE 60)).shut=true/\(Br (cW true [false]) (sE 60)).ended=true/\(Br (cW true [false]) (sE 60)).canc=true/\(Br (cW true [false]) (sE 60)).read=6:=by decide+kernel
theorem are:(Br (cW false []) (sP 200)).ph=[5,4,4,3,2]/\(Br (cW false []) (sP 200)).next=2/\(Br (cW false []) (sP 200)).number=2/\(Br (cW false []) (sP 200)).q=[]/\(Br (cW false []) (sP 200)).rg=[]/\(Br (cW false []) (sP 200)).out=0/\(Br (cW false []) (sP 200)).live=[]/\(Br (cW false []) (sP 200)).free=2/\(Br (cW false []) (sP 200)).shut=true/\(Br (cW false []) (sP 200)).ended=true/\(Br (cW false []) (sP 200)).canc=false/\(Br (cW false []) (sP 200)).read=6:=by decide+kernel
def vwE(b:Bool):VwX:=⟨[5,4,4,3,2],2,2,[],[],0,[],2,true,true,b,6⟩
theorem VwX.ext'{x y:VwX}(h1:x.ph=y.ph)(h2:x.next=y.next)(h3:x.number=y.number)(h4:x.q=y.q)(h5:x.rg=y.rg)(h6:x.out=y.out)(h7:x.live=y.live)(h8:x.free=y.free)(h9:x.shut=y.shut)(h10:x.ended=y.ended)(h11:x.canc=y.canc)(Z:x.read=y.read):x=y:=by
 cases x
 cases y
 simp_all
theorem ark:Br (cW true [false]) (sE 60)=vwE true:=by obtain⟨h1,h2,h3,h4,h5,h6,h7,h8,h9,h10,h11,Z⟩:=ar8;exact VwX.ext' h1 h2 h3 h4 h5 h6 h7 h8 h9 h10 h11 Z
theorem arj:Br (cW false []) (sP 200)=vwE false:=by obtain⟨h1,h2,h3,h4,h5,h6,h7,h8,h9,h10,h11,Z⟩:=are;exact VwX.ext' h1 h2 h3 h4 h5 h6 h7 h8 h9 h10 h11 Z
section
variable {br:Bool}{ans:List Bool}
theorem Ov:OkC (cW br ans):=aok (c:=cW br ans) (by show Ce 2 3 2 1 1 2 0=true;decide) (by show 3<=32;decide)
theorem ar3:ML (cW br ans) 400 5:=ao2 (c:=cW br ans) rfl (by decide+kernel)
theorem aqm:FC (cW br ans) 400 5 120 0 (Bn (cW br ans) rW):=FC.new (by show 1<=2;decide) _ (by unfold FS;decide)
theorem PT{s:PlM}:∀(l:List Int)(s:PlM)(n:Nat),FC (cW br ans) 400 5 120 n s->FC (cW br ans) 400 5 120 (n+l.length) (PJ (cW br ans) s l)
 |[],s,n,h=>h
 |m::l,s,n,h=>by
  have:=PT (s:=s) l _ _ (h.pick (by show 3<=256;decide) ar3 m)
  rwa[show n+1+l.length=n+(m::l).length by rw[Ao];omega]at this
theorem okW{s:PlM}{n:Nat}(h:FC (cW br ans) 400 5 120 n s)(Z:n<=3900):OkM (cW br ans) s:=h.ok Ov Z (by decide) (by decide) ar3
end
theorem ar6(n:Nat):(nW n).length=n:=by simp[nW]
theorem PG(n:Nat):FC (cW false []) 400 5 120 n (sP n):=by have:=PT (s:=sP 0) (nW n) _ _ (aqm (br:=false) (ans:=[]));rwa[ar6,DD]at this
theorem PC(n:Nat):FC (cW true [false]) 400 5 120 n (sQ n):=by have:=PT (s:=sP 0) (nW n) _ _ (aqm (br:=true) (ans:=[false]));rwa[ar6,DD]at this
theorem PL(n:Nat):FC (cW true [false]) 400 5 120 (200+n) (sE n):=by have:=PT (s:=sP 0) (List.replicate n 0) _ _ (PC 200).cancel;rwa[CS]at this
theorem aq3(v0 v3 v4 v6 u0 u3 u4 u6:Value)(x:VwX)(cb:Bool)(w:World){m m':Nat}(h:VwS w m v0 v3 v4 v6 x)(k:VwS w m' u0 u3 u4 u6 {x with canc:=cb}) :Calls ZP 36 #[.agg (vwC v0 v3 v4 v6 x),.agg (vwC u0 u3 u4 u6 {x with canc:=cb})] w λe w'=>e=.returned (bool (x.canc==cb))/\Bt w w':=by
 obtain⟨xs,nx,nu,q,rg,ou,lv,fr,sh,en,ca,re⟩:=x;obtain⟨r0,r3,r4,r6,ag,l3,l4,l6,l0⟩:=h;obtain⟨k0,k3,k4,k6,_,_⟩:=k;dsimp only[vwC]at *;obtain⟨a0,c0,rfl,_,s0⟩:=Co r0;obtain⟨a3,c3,rfl,_,s3⟩:=Co r3;obtain⟨a4,c4,rfl,_,s4⟩:=Co r4;obtain⟨a6,c6,rfl,_,s6⟩:=Co r6;obtain⟨b0,d0,rfl,_,t0⟩:=Co k0;obtain⟨b3,d3,rfl,_,t3⟩:=Co k3;obtain⟨b4,d4,rfl,_,t4⟩:=Co k4;obtain⟨b6,d6,rfl,_,t6⟩:=Co k6;have ai:xs.length<=4611686018427387904:=by omega
 obtain⟨B,aa⟩:∃n,xs.length=n:=⟨_,rfl⟩;obtain⟨C,a8⟩:∃n,q.length=n:=⟨_,rfl⟩;obtain⟨D,a7⟩:∃n,rg.length=n:=⟨_,rfl⟩;obtain⟨H,a2⟩:∃n,lv.length=n:=⟨_,rfl⟩;rw[aa]at s0 t0⊢;rw[a8]at s3 t3 l3⊢;rw[a7]at s4 t4 l4⊢;rw[a2]at s6 t6 l6⊢;obtain⟨W,hW⟩:∃W,W=(w.alloc (.cells #[slice a0 B c0,int i64 nx,int i64 nu,slice a3 C c3,slice a4 D c4,int i64 ou,slice a6 H c6,int i64 fr,bool sh,bool en,bool ca,int i64 re] 63)).alloc (.cells #[slice b0 B d0,int i64 nx,int i64 nu,slice b3 C d3,slice b4 D d4,int i64 ou,slice b6 H d6,int i64 fr,bool sh,bool en,bool cb,int i64 re] 63):=⟨_,rfl⟩;have hO:Bx w.heap.size [.cells #[slice a0 B c0,int i64 nx,int i64 nu,slice a3 C c3,slice a4 D c4,int i64 ou,slice a6 H c6,int i64 fr,bool sh,bool en,bool ca,int i64 re] 63,.cells #[slice b0 B d0,int i64 nx,int i64 nu,slice b3 C d3,slice b4 D d4,int i64 ou,slice b6 H d6,int i64 fr,bool sh,bool en,bool cb,int i64 re] 63] W:=by rw[hW];exact((Bx.nil _ w).snoc _ rfl).snoc _ sm
 have Z:Bt w W:=by rw[hW];exact(AL w _).alloc (AL w _).size _
 obtain⟨J,ah⟩:∃y,(w.alloc (.cells #[slice a0 B c0,int i64 nx,int i64 nu,slice a3 C c3,slice a4 D c4,int i64 ou,slice a6 H c6,int i64 fr,bool sh,bool en,bool ca,int i64 re] 63)).heap.size=y:=⟨_,rfl⟩;have af:J=w.heap.size+1:=by rw[<-ah];simp
 obtain⟨I,a1⟩:∃y,w.heap.size=y:=⟨_,rfl⟩;have HC:Hid (∀V,Bt W V->(V.cell? ⟨I,0,none⟩=some (slice a0 B c0)/\V.cell? ⟨I,1,none⟩=some (int i64 nx)/\V.cell? ⟨I,2,none⟩=some (int i64 nu)/\V.cell? ⟨I,3,none⟩=some (slice a3 C c3)/\V.cell? ⟨I,4,none⟩=some (slice a4 D c4)/\V.cell? ⟨I,5,none⟩=some (int i64 ou)/\V.cell? ⟨I,6,none⟩=some (slice a6 H c6)/\V.cell? ⟨I,7,none⟩=some (int i64 fr)/\V.cell? ⟨I,8,none⟩=some (bool sh)/\V.cell? ⟨I,9,none⟩=some (bool en)/\V.cell? ⟨I,10,none⟩=some (bool ca)/\V.cell? ⟨I,11,none⟩=some (int i64 re))/\V.cell? ⟨J,0,none⟩=some (slice b0 B d0)/\V.cell? ⟨J,1,none⟩=some (int i64 nx)/\V.cell? ⟨J,2,none⟩=some (int i64 nu)/\V.cell? ⟨J,3,none⟩=some (slice b3 C d3)/\V.cell? ⟨J,4,none⟩=some (slice b4 D d4)/\V.cell? ⟨J,5,none⟩=some (int i64 ou)/\V.cell? ⟨J,6,none⟩=some (slice b6 H d6)/\V.cell? ⟨J,7,none⟩=some (int i64 fr)/\V.cell? ⟨J,8,none⟩=some (bool sh)/\V.cell? ⟨J,9,none⟩=some (bool en)/\V.cell? ⟨J,10,none⟩=some (bool cb)/\V.cell? ⟨J,11,none⟩=some (int i64 re)):=λV A=>by have h:=hO.below A;rw[a1]at h;rw[af,a1];exact⟨⟨h.cell (i:=0) rfl rfl,h.cell (i:=0) rfl rfl,h.cell (i:=0) rfl rfl,h.cell (i:=0) rfl rfl,h.cell (i:=0) rfl rfl,h.cell (i:=0) rfl rfl,h.cell (i:=0) rfl rfl,h.cell (i:=0) rfl rfl,h.cell (i:=0) rfl rfl,h.cell (i:=0) rfl rfl,h.cell (i:=0) rfl rfl,h.cell (i:=0) rfl rfl⟩,h.cell (i:=1) rfl rfl,h.cell (i:=1) rfl rfl,h.cell (i:=1) rfl rfl,h.cell (i:=1) rfl rfl,h.cell (i:=1) rfl rfl,h.cell (i:=1) rfl rfl,h.cell (i:=1) rfl rfl,h.cell (i:=1) rfl rfl,h.cell (i:=1) rfl rfl,h.cell (i:=1) rfl rfl,h.cell (i:=1) rfl rfl,h.cell (i:=1) rfl rfl⟩
 have I0:Hid (Calls ZP 74 #[slice a0 B c0,slice b0 B d0] W λe w'=>e=.returned (bool true)/\Bt W w'):=by
  have:=anw a0 b0 B c0 B d0 xs xs W (s0.below Z) (t0.below Z) (by have:=ai;omega)
  rwa[Lz rfl]at this
 have I3:Hid (∀V,Bt W V->Calls ZP 75 #[slice a3 C c3,slice b3 C d3] V λe w'=>e=.returned (bool true)/\Bt V w'):=λV A=>by
  have:=afE a3 b3 C c3 C d3 q q V ((s3.below Z).below A) ((t3.below Z).below A) om
  rwa[Lz rfl]at this
 have I4:Hid (∀V,Bt W V->Calls ZP 75 #[slice a4 D c4,slice b4 D d4] V λe w'=>e=.returned (bool true)/\Bt V w'):=λV A=>by
  have:=afE a4 b4 D c4 D d4 rg rg V ((s4.below Z).below A) ((t4.below Z).below A) om
  rwa[Lz rfl]at this
 have I6:Hid (∀V,Bt W V->Calls ZP 75 #[slice a6 H c6,slice b6 H d6] V λe w'=>e=.returned (bool true)/\Bt V w'):=λV A=>by
  have:=afE a6 b6 H c6 H d6 lv lv V ((s6.below Z).below A) ((t6.below Z).below A) om
  rwa[Lz rfl]at this
 have HB:=AA Z;have aj:=AA a1;obtain⟨⟨q0,q1,q2,q3,q4,q5,q6,j,s,z,X,Y⟩,p0,p1,p2,p3,p4,p5,p6,p7,p8,p9,N,U⟩:=HC.out W (AH _ _);clear r0 r3 r4 r6 ag l3 l4 l6 l0 k0 k3 k4 k6 s0 s3 s4 s6 t0 t3 t4 t6 hO Z af aa a8 a7 a2
 cases ca<;>cases cb
 all_goals
  subst hW;go_enter func36,ntmps36
  go_wp2_with fail
  refine I0.out.mono ?_;rintro e w0 ⟨rfl,ab⟩;have X0:=AA ab;clear q0 q1 q2 q3 q4 q5 q6 j s z X Y p0 p1 p2 p3 p4 p5 p6 p7 p8 p9 N U ab;obtain⟨⟨q0,q1,q2,q3,q4,q5,q6,j,s,z,X,Y⟩,p0,p1,p2,p3,p4,p5,p6,p7,p8,p9,N,U⟩:=HC.out w0 X0.out
  go_wp2_with fail
  refine(I3.out w0 X0.out).mono ?_;rintro e w1 ⟨rfl,ae⟩;have X1:=AA (X0.out.trans (ae.mono X0.out.size));clear q0 q1 q2 q3 q4 q5 q6 j s z X Y p0 p1 p2 p3 p4 p5 p6 p7 p8 p9 N U ae;obtain⟨⟨q0,q1,q2,q3,q4,q5,q6,j,s,z,X,Y⟩,p0,p1,p2,p3,p4,p5,p6,p7,p8,p9,N,U⟩:=HC.out w1 X1.out
  go_wp2_with fail
  refine(I4.out w1 X1.out).mono ?_;rintro e w2 ⟨rfl,ad⟩;have X2:=AA (X1.out.trans (ad.mono X1.out.size));clear q0 q1 q2 q3 q4 q5 q6 j s z X Y p0 p1 p2 p3 p4 p5 p6 p7 p8 p9 N U ad;obtain⟨⟨q0,q1,q2,q3,q4,q5,q6,j,s,z,X,Y⟩,p0,p1,p2,p3,p4,p5,p6,p7,p8,p9,N,U⟩:=HC.out w2 X2.out
  go_wp2_with fail
  refine(I6.out w2 X2.out).mono ?_;rintro e w3 ⟨rfl,ac⟩;have X3:=AA (X2.out.trans (ac.mono X2.out.size));clear q0 q1 q2 q3 q4 q5 q6 j s z X Y p0 p1 p2 p3 p4 p5 p6 p7 p8 p9 N U ac;obtain⟨⟨q0,q1,q2,q3,q4,q5,q6,j,s,z,X,Y⟩,p0,p1,p2,p3,p4,p5,p6,p7,p8,p9,N,U⟩:=HC.out w3 X3.out;go_wp2;go_ret;exact⟨rfl,HB.out.trans (X3.out.mono HB.out.size)⟩
section
variable {A B:PAd}{c d:CfM}{s s' t t':PlM}{o p:Nat->Nat}{F:Nat->Prop}{w w' w'':World}
theorem AI.far{Y:Nat->Prop}(h:AI A c o s w)(X:Chg Y w w')(V:∀k,k<w.heap.size->Y k->o k=1000000):AI A c o s w':=⟨λu U=>(h.part u U).keep X (λk hk e Z=>by have h1:o k=u:=e;have:=V k hk Z;omega) (λk hk e Z=>by have h1:o k=0:=e;have:=V k hk Z;omega),λk hk=>h.out k (AS X.size hk)⟩
def PP(o p:Nat->Nat)(F:Nat->Prop)(w:World):Prop:=(∀k,F k->k<w.heap.size/\o k=1000000/\p k=1000000)/\∀k,k<w.heap.size->(Oz o k->p k=1000000)/\(Oz p k->o k=1000000)
theorem PP.symm(h:PP o p F w):PP p o F w:=⟨λk hk=>let⟨a,b,c⟩:=h.1 k hk;⟨a,c,b⟩,λk hk=>(h.2 k hk).symm⟩
def Two(A B:PAd)(c d:CfM)(F:Nat->Prop)(s t:PlM)(w:World):Prop:=∃o p,AI A c o s w/\AI B d p t w/\PP o p F w
theorem Two.symm(h:Two A B c d F s t w):Two B A d c F t s w:=let⟨o,p,h1,h2,h3⟩:=h;⟨p,o,h2,h1,h3.symm⟩
theorem Two.more{G:Nat->Prop}(h:Two A B c d F s t w)(V:Bt w w')(U:∀k,G k->F k∨w.heap.size<=k/\k<w'.heap.size):Two A B c d G s t w':=by
 obtain⟨o,p,h1,h2,h3,h4⟩:=h;have X:Chg (λ_=>False) w w':=.of_same V;refine⟨o,p,h1.far X λ_ _ e=>e.elim,h2.far X λ_ _ e=>e.elim,λk hk=>?_,λk hk=>?_⟩
 ·rcases U k hk with Z|⟨Z,Y⟩
  ·exact⟨Af (h3 k Z).1 X.size,(h3 k Z).2⟩
  ·exact⟨Y,h1.out k Z,h2.out k Z⟩
 ·by_cases Y:k<w.heap.size
  ·exact h4 k Y
  ·exact⟨λe=>absurd (h1.out k om) e.2,λe=>absurd (h2.out k om) e.2⟩
theorem Two.same(h:Two A B c d F s t w)(Z:Bt w w'):Two A B c d F s t w':=h.more Z λk hk=>.inl hk
theorem AE.two(h:AE A c o s' w w')(Y:AI B d p t w)(ha:PP o p F w):Two A B c d F s' t w'/\Chg (λk=>¬F k) w w':=by
 obtain⟨V,h1,h2,h3⟩:=h;refine⟨⟨V,p,h1,Y.far h3.c λk hk e=>(ha.2 k hk).1 e,λk hk=>⟨Af (ha.1 k hk).1 h3.c.size,h3.f k (ha.1 k hk).1 (ha.1 k hk).2.1,(ha.1 k hk).2.2⟩,λk hk=>?_⟩,h3.c.mono λk _ e U=>e.2 (ha.1 k U).2.1⟩
 by_cases Z:k<w.heap.size
 ·refine⟨λe=>(ha.2 k Z).1 ⟨λX=>e.1 (h2 k X),λX=>e.2 (h3.f k Z X)⟩,λe=>h3.f k Z ((ha.2 k Z).2 e)⟩
 ·exact⟨λ_=>Y.out k om,λe=>absurd (Y.out k om) e.2⟩
theorem Two.call(h:Two A B c d F s t w){f:FuncId}{args:Array Value}{R:Ending->World->Prop}(k:∀o,AI A c o s w->Calls ZP f args w λe w'=>R e w'/\AE A c o s' w w') :Calls ZP f args w λe w'=>R e w'/\Two A B c d F s' t w'/\Chg (λk=>¬F k) w w':=by obtain⟨o,p,h1,h2,h3⟩:=h;refine(k o h1).mono ?_;rintro e w' ⟨Z,Y⟩;exact⟨Z,Y.two h2 h3⟩
theorem Chg.belF{b:Nat}(h:Chg (λk=>¬k<b) w w')(Z:b<=w.heap.size):Below b w w':=h.below Z λk hk e=>e hk
end
theorem ar0{c:CfM}{fold:Bool}{wss Z:La}{q m S Kk:Nat}{C H I D N V:World}{P n0 n1 n2 n3 n4 n5 Bb Bu Bd Q QB G GB O OB:Nat}{tv:Value}{tl:List Tk}{vs:List TVw}{sa ka:Option Addr}{sc kn kc:Nat}
  (hF:Hj q m fold wss H) (hr:An fold wss=true) (y:c.scan=scF fold wss c.S) (U:OkC c) (hq:q=C.heap.size) (e:Bt C H) (z:Bt H D) (B:Bt D I) (J:Bt I N)
  (hk:CN (λk=>I.heap.size<=k) Kk ka kn kc (slice none 0 0) c.ans [] 0 N) (hs:BY (λk=>D.heap.size<=k) S sa Z.length sc vs Z c.br 0 I) (hn:Z.length<=1000000) (h:GO c m S Kk N P n0 n1 n2 n3 n4 n5 Bb Bu Bd Q QB G GB O OB tv tl V) :
  ∃A o,A.P=P/\A.Kk=Kk/\AI A c o (Bn c Z) V/\∀k,k<C.heap.size->o k=1000000:=by
 have s1:=z.size;have s2:=B.size;have s3:=J.size;have s0:=e.size;obtain⟨o0,X⟩:∃o0:Nat->Nat,o0=λk=>if k<C.heap.size then 1000000 else if k<H.heap.size then 0 else if k<I.heap.size then 2 else if k<N.heap.size then 3 else 1000000:=⟨_,rfl⟩
 have j:CN (λk=>o0 k=3) Kk ka kn kc (slice none 0 0) c.ans [] 0 N:=by refine hk.wide (Y:=λk=>o0 k=3) λk hk hx=>?_;rw[X];dsimp only;rw[Lb om,Lb om,Lb om,Lc hk]
 have x:BY (λk=>o0 k=2) S sa Z.length sc vs Z c.br 0 N:=by refine(hs.wide (Y:=λk=>o0 k=2) λk hk hx=>?_).keep (Y:=λ_=>False) (Chg.of_same J) λ_ _ _ h=>h;rw[X];dsimp only;rw[Lb om,Lb om,Lc hk]
 have s:Fk q H N:=EF.of_below (z.trans ((B.trans (J.mono s2)).mono s1));obtain⟨g,cap,hP⟩:=ao8 h (o0:=o0) (λk hk=>by rw[X];dsimp only;rw[Lb om,Lb om,Lb om,Lb om]) x hn j (λV hV=>ap3 hF hr y U.S.2 V hV) s (λk a1 hk=>by rw[X];dsimp only;rw[Lb om,Lc hk]) U.R.1 U.Q.1 U.O.1;refine⟨_,_,rfl,rfl,hP,λk hk=>?_⟩;unfold Cp;rw[Lc om,X];exact Lc hk
theorem apT(c:CfM)(fold:Bool)(a:Option Addr)(U ca:Nat)(b:Option Addr)(n cb:Nat)(d:Option Addr)(m cd:Nat)(wss Y:La)(w:World)(hA:Wds w a U wss)(hR:∃vs,aph w b n vs Y)(j:Sl1 bool w d m c.ans)
  (hr:An fold wss=true) (ak:U<=1000000) (hM:∀x∈wss,x.length<=1000000) (hT:(Ad fold wss).length<=1000000) (hL:Au wss=(c.L:Int)) (I:c.L<=32) (a6:c.scan=scF fold wss c.S) (a2:OkC c) (ac:Ce c.W c.K c.R c.Q c.O c.S c.F=true) (hn:n<=1000000) (hl:∀x∈Y,x.length<=1000000) (hm:m<=1000000) :
  Calls ZP 24 #[.agg (AM fold a U ca),.agg (Ee c.W c.K c.R c.Q c.O c.S c.F),bool c.br,slice b n cb,slice d m cd] w λe w'=>∃A o,e=.returned (pointer (some ⟨A.P,0,none⟩))/\AI A c o (Bn c Y) w'/\Bt w w'/\∀k,k<w.heap.size->o k=1000000:=by
 obtain⟨W,hW⟩:∃W,W=(w.alloc (.cells (AM fold a U ca) 24)).alloc (.cells (Ee c.W c.K c.R c.Q c.O c.S c.F) 26):=⟨_,rfl⟩;have hO:Bx w.heap.size [.cells (AM fold a U ca) 24,.cells (Ee c.W c.K c.R c.Q c.O c.S c.F) 26] W:=by rw[hW];exact((Bx.nil _ w).snoc _ rfl).snoc _ sm
 have X:Bt w W:=by rw[hW];exact(AL w _).alloc (AL w _).size _
 obtain⟨S0,ae⟩:∃x,(w.alloc (.cells (AM fold a U ca) 24)).heap.size=x:=⟨_,rfl⟩;have s:S0=w.heap.size+1:=by rw[<-ae];simp
 have HC:Hid (∀V,Bt W V->V.cell? ⟨w.heap.size,0,none⟩=some (bool fold)/\V.cell? ⟨w.heap.size,1,none⟩=some (slice a U ca)/\V.cell? ⟨w.heap.size+1,0,none⟩=some (int i64 c.W)/\V.cell? ⟨w.heap.size+1,1,none⟩=some (int i64 c.K)/\V.cell? ⟨w.heap.size+1,2,none⟩=some (int i64 c.R)/\V.cell? ⟨w.heap.size+1,3,none⟩=some (int i64 c.Q)/\V.cell? ⟨w.heap.size+1,4,none⟩=some (int i64 c.O)/\V.cell? ⟨w.heap.size+1,5,none⟩=some (int i64 c.S)/\V.cell? ⟨w.heap.size+1,6,none⟩=some (int i64 c.F)):=λV J=>by have h:=hO.below J;exact⟨h.cell (i:=0) rfl rfl,h.cell (i:=0) rfl rfl,h.cell (i:=1) rfl rfl,h.cell (i:=1) rfl rfl,h.cell (i:=1) rfl rfl,h.cell (i:=1) rfl rfl,h.cell (i:=1) rfl rfl,h.cell (i:=1) rfl rfl,h.cell (i:=1) rfl rfl⟩
 have k1:Hid (Calls ZP 52 #[.agg (AM fold a U ca)] W λe w'=>∃B,e=.returned (.tuple #[pointer (some ⟨B,0,none⟩),int i64 0])/\Hj W.heap.size B fold wss w'/\Bt W w'):=adn fold a U ca wss W (hA.below X) ak hM hT hr;have k2:Hid (∀V,Bt W V->Calls ZP 53 #[slice d m cd] V λe w'=>∃K a' c',e=.returned (pointer (some ⟨K,0,none⟩))/\CN (λk=>V.heap.size<=k) K a' m c' (slice none 0 0) c.ans [] 0 w'/\Bt V w'):=λV J=>ajG d m cd c.ans V ((j.below X).below J) hm;obtain⟨ai,Z⟩:=hR;have a8:Y.length=n:=by rw[<-Z.2.1];exact Z.1.1
 have k3:Hid (∀V,Bt W V->Calls ZP 55 #[bool c.br,slice b n cb] V λe w'=>∃S a' c' aj,e=.returned (pointer (some ⟨S,0,none⟩))/\BY (λk=>V.heap.size<=k) S a' Y.length c' aj Y c.br 0 w'/\Bt V w'):=λV J=>
  aiT b n cb ai Y c.br V ⟨(Z.1.below X).below J,Z.2.1,λi v xs h1 h2=>((Z.2.2 i v xs h1 h2).below X).below J⟩ hn hl
 have HB:=AA X;have HR:=AA hr;have HL:=AA hL;have HK:=AA I;have HS:=AA a6;have ao:=AA a2;have HF:=AA ac;have HN:Hid (Y.length<=1000000):=by rw[Hid,a8];exact hn
 have aq:=AA s;rw[<-s]at HC;obtain⟨q0,q1,q2,q3,q4,q5,q6,q7,q8⟩:=HC.out W (AH _ _);clear hA Z j hr hM hT hL I a6 a2 ac hl hO X a8 s;go_enter func24,ntmps24;go_upto_region 1 with fail
 rw[<-hW];clear hW ae
 go_wp2_with fail
 refine k1.out.mono ?_;rintro e w1 ⟨B,rfl,af,ad⟩;have X1:=AA ad;have ah:=AA af;clear q0 q1 q2 q3 q4 q5 q6 q7 q8 ad af k1;go_upto_region 4 with fail
 obtain⟨D,j⟩:∃D,D=w1.drew:=⟨_,rfl⟩;have N:Hid (Bt w1 D):=by rw[Hid,j];exact AN w1 1
 have XD:=AA (X1.out.trans (N.out.mono X1.out.size));have K3:=AA (k3.out D XD.out);clear k3;refine Vb ?_;refine Va (S:=λV=>Bt W V) kr (by rw[<-j];exact XD.out) (λhHeld=>?_);rw[<-j];clear j;refine tkB 0 HC.out ?_;refine tkB 1 HC.out ?_;refine tkB 2 HC.out ?_;refine tkB 3 HC.out ?_;refine tkA 5 ?_;refine rdy 4 (λK H=>?_);go_simp
 go_at_call 55;refine K3.out.mono ?_;rintro e w2 ⟨S,sa,sc,vs,rfl,a7,y⟩
 have a1:=AA y;have al:=AA a7;have X2:=AA (XD.out.trans (y.mono XD.out.size));clear y a7 K3;refine H.out _ _ X2.out (λh7=>?_);clear H K
 try simp only[pq]
 have K2:=AA (k2.out w2 X2.out);clear k2;refine rdy 6 (λK H=>?_);go_simp
 go_at_call 53;refine K2.out.mono ?_;rintro e w3 ⟨Kk,ka,kc,rfl,ab,z⟩
 have ag:=AA z;have ap:=AA ab;have X3:=AA (X2.out.trans (z.mono X2.out.size));clear z ab K2;refine H.out _ _ X3.out (λh8=>?_);clear H K
 try simp only[pq]
 have aa:Fk W.heap.size w1 w3:=EF.of_below (N.out.trans ((a1.out.trans (ag.out.mono a1.out.size)).mono N.out.size));have K4:=AA (aiL c B S Kk W.heap.size w1 w3 HF.out HK.out (λV J=>ap2 ah.out HL.out V J) aa);clear aa;refine rdy 7 (λK H=>?_);go_simp
 go_at_call 54;refine K4.out.mono ?_;rintro e w4 ⟨P,n0,n1,n2,n3,n4,n5,Bb,Bu,Bd,Q,QB,G,GB,O,OB,tv,tl,rfl,C⟩
 have am:=AA C;have X4:=AA (X3.out.trans (C.below.mono X3.out.size));clear C;refine H.out _ _ X4.out (λh9=>?_);clear H K
 try simp only[pq]
 refine tkA 8 ?_;refine tkA 9 ?_;refine tkA 10 ?_;refine tkA 11 ?_;refine tkA 12 ?_;refine Vd kr ?_ _;refine At ?_;go_wp2;go_ret;obtain⟨A,o,e1,e2,e3,e4⟩:=ar0 ah.out HR.out HS.out ao.out rfl X1.out N.out a1.out ag.out ap.out al.out HN.out am.out;refine⟨A,o,?_,e3,HB.out.trans (X4.out.mono HB.out.size),λk hk=>e4 k (Af hk HB.out.size)⟩;rw[e1];rfl
def PD(c:CfM)(s:PlM)(d n:Int):PlM:=if d=0 then Fi c s n else if d=1 then PA c s n else LN s
def PM(c:CfM)(s:PlM)(d n:Int):Value:=.tuple (if d=0 then(match EZ c s n with|none=>#[int i64 0,bool false]|some t=>#[int i64 (t:Int),bool true]) else if d=1 then #[int i64 n,bool (Ou c s n)] else #[int i64 0,bool (!(s.cancelled || Fd s))])
theorem aqj{A:PAd}{c:CfM}{s:PlM}{o:Nat->Nat}(w:World)(h:AI A c o s w)(U:OkC c)(ok:OkM c s)(d n:Int) :Calls ZP 31 #[pointer (some ⟨A.P,0,none⟩),.agg #[int i64 d,int i64 n]] w λe w'=>e=.returned (PM c s d n)/\AE A c o (PD c s d n) w w':=by
 obtain⟨W,hW⟩:∃W,W=w.alloc (.cells #[int i64 d,int i64 n] 59):=⟨_,rfl⟩;have N:Bt w W:=by rw[hW];exact AL _ _
 have x:W.heap[w.heap.size]?=some (.cells #[int i64 d,int i64 n] 59 (0,0)):=by rw[hW];exact AT _ _
 have X:W.cell? ⟨w.heap.size,0,none⟩=some (int i64 d):=by simp[cell?,x]
 have z:W.cell? ⟨w.heap.size,1,none⟩=some (int i64 n):=by simp[cell?,x]
 have hG:=h.g.bel N;obtain⟨P,hP⟩:∃P,A.P=P:=⟨_,rfl⟩;unfold PM PD;have C:=AA (ahi w W hG U ok n);have y:Hid (∀D,Bt W D->Calls ZP 44 #[pointer (some ⟨A.P,0,none⟩),int i64 n] D λe w'=>e=.returned (bool (Ou c s n))/\AE A c o (PA c s n) w w'/\w'.cell? ⟨w.heap.size,1,none⟩=some (int i64 n)):=λD I=>by have a1:Bt w D:=N.trans (I.mono N.size);have hl:=(AD.1 x).1;have a6:=h.far (Y:=λ_=>False) (Chg.of_same a1) λ_ _ e=>e.elim;refine(aq2 D D a6.g U ok n).mono ?_;rintro e w' ⟨h1,h2⟩;refine⟨h1,AE.comp (λ_ h=>h) ⟨.of_same a1,λ_ _ h=>h⟩ h2,?_⟩;obtain⟨o1,_,_,h3⟩:=h2;have e1:w'.heap[w.heap.size]?=W.heap[w.heap.size]?:=(h3.c.block _ (Af hl I.size) λe=>e.2 (h.out _ (AC _))).trans (I.block _ hl);simp[cell?,e1,x]
 have HN:=AA (apX w W hG U ok.wl);rw[hP]at C y HN⊢;clear h N x hG U ok hP
 by_cases h0:d=0
 ·subst h0;simp only[if_true];clear y HN
  cases hp:EZ c s n with
  |none=>
   rw[hp]at C;go_enter func31,ntmps31;go_upto_region 1 with fail
   rw[<-hW];clear hW
   go_wp2_with fail
   refine C.out.mono ?_;rintro e w1 ⟨rfl,Z⟩;have B:=AA Z;clear Z X z;go_wp2;go_ret2;exact⟨rfl,B.out⟩
  |some t=>
   rw[hp]at C;go_enter func31,ntmps31;go_upto_region 1 with fail
   rw[<-hW];clear hW
   go_wp2_with fail
   refine C.out.mono ?_;rintro e w1 ⟨rfl,Z⟩;have B:=AA Z;clear Z X z;go_wp2;go_ret2;exact⟨rfl,B.out⟩
 ·rw[Lb h0,Lb h0];have e0:(d==0)=false:=by simp[h0]
  have a7:decide (d=0)=false:=by simp[h0]
  by_cases h1:d=1
  ·subst h1;simp only[if_true];clear C HN e0 a7;obtain⟨b,j⟩:∃b,Ou c s n=b:=⟨_,rfl⟩;rw[j]at y⊢;clear j;go_enter func31,ntmps31;go_upto_region 1 with fail
   rw[<-hW];clear hW;go_upto_region 5 with fail
   obtain⟨D,I⟩:∃D,D=W.drew:=⟨_,rfl⟩;have H:Bt W D:=by rw[I];exact AN W 1
   have a2:D.cell? ⟨w.heap.size,1,none⟩=some (int i64 n):=(H.cell (p:=⟨w.heap.size,1,none⟩) (DO W _ z)).trans z;have a8:=AA (y.out D H);clear y X z H;refine Vb ?_;refine Va (S:=λV=>V.cell? ⟨w.heap.size,1,none⟩=some (int i64 n)) kr (by rw[<-I];exact a2) (λhHeld=>?_);rw[<-I];clear I hHeld;refine tkW 0 (v:=?_) ?_ ?_;rotate_left
   ·intro V J;have X:V.cell? ⟨w.heap.size,1,none⟩=some (int i64 n):=J
    first|(go_simp;done)|(go_simp;with_reducible rfl)
   try simp only[pq]
   refine tkW 1 (v:=?_) ?_ ?_;rotate_left
   ·intro V J;have X:V.cell? ⟨w.heap.size,1,none⟩=some (int i64 n):=J
    first|(go_simp;done)|(go_simp;with_reducible rfl)
   try simp only[pq]
   refine tkW 2 (v:=?_) ?_ ?_;rotate_left
   ·intro V J;have X:V.cell? ⟨w.heap.size,1,none⟩=some (int i64 n):=J
    first|(go_simp;done)|(go_simp;with_reducible rfl)
   try simp only[pq]
   refine tkW 3 (v:=?_) ?_ ?_;rotate_left
   ·intro V J;have X:V.cell? ⟨w.heap.size,1,none⟩=some (int i64 n):=J
    first|(go_simp;done)|(go_simp;with_reducible rfl)
   try simp only[pq]
   refine tkW 4 (v:=?_) ?_ ?_;rotate_left
   ·intro V J;have X:V.cell? ⟨w.heap.size,1,none⟩=some (int i64 n):=J
    first|(go_simp;done)|(go_simp;with_reducible rfl)
   try simp only[pq]
   refine rdy 5 (λK hK=>?_);go_simp
   go_at_call 44;refine a8.out.mono ?_;rintro e w1 ⟨rfl,Z,hq⟩
   have B:=AA Z;refine hK.out _ _ hq (λh5=>?_);clear hK K Z hq
   try simp only[pq]
   refine tkA 6 ?_;refine tkA 7 ?_;refine Vd kr ?_ _;refine At ?_;go_wp2;go_ret2;exact⟨rfl,B.out⟩
  ·rw[Lb h1,Lb h1];have e1:(d==1)=false:=by simp[h1]
   have aa:decide (d=1)=false:=by simp[h1]
   clear C y;obtain⟨b,j⟩:∃b,(!(s.cancelled || Fd s))=b:=⟨_,rfl⟩;rw[j]at HN⊢;clear j;go_enter func31,ntmps31;go_upto_region 1 with fail
   rw[<-hW];clear hW
   go_wp2_with fail
   refine HN.out.mono ?_;rintro e w1 ⟨rfl,Z⟩;have B:=AA Z;clear Z X z;go_wp2;go_ret2;exact⟨rfl,B.out⟩
section
variable {A B:PAd}{c d:CfM}{s s' t t':PlM}{o p:Nat->Nat}{F:Nat->Prop}{w w' w'':World}
theorem Two.mk{U V N:World}{b:Nat}(h1:AI A c o s U)(D:b<=U.heap.size)(I:∀k,k<b->o k=1000000)(X:Bt U V)(Z:Bt V N)(h3:AI B d p t N)(J:∀k,k<V.heap.size->p k=1000000):Two A B c d (λk=>k<b) s t N:=by
 have s1:=X.size;have s2:=Z.size;refine⟨o,p,(h1.far (Y:=λ_=>False) (.of_same (X.trans (Z.mono s1))) λ_ _ e=>e.elim),h3,λk hk=>⟨by omega,I k hk,J k om⟩,λk hk=>⟨λe=>?_,λe=>?_⟩⟩
 ·refine J k (Nat.lt_of_not_le λH=>?_);exact e.2 (h1.out k om)
 ·refine h1.out k (Nat.le_of_not_lt λH=>?_);exact e.2 (J k om)
theorem Two.calm(h:Two A B c d F s t w){f:FuncId}{args:Array Value}{R:Ending->World->Prop}(k:∀o,AI A c o s w->Calls ZP f args w λe w'=>R e w'/\Bt w w') :Calls ZP f args w λe w'=>R e w'/\Two A B c d F s t w'/\Bt w w':=by have h0:=h;obtain⟨o,p,h1,h2,h3⟩:=h;refine(k o h1).mono ?_;rintro e w' ⟨Y,Z⟩;exact⟨Y,h0.same Z,Z⟩
theorem Two.pick(h:Two A B c d F s t w)(Z:OkC c)(ok:OkM c s)(z:Int) :Calls ZP 17 #[pointer (some ⟨A.P,0,none⟩),int i64 z] w λe w'=>e=.returned (.tuple (match EZ c s z with|none=>#[int i64 0,bool false]|some t=>#[int i64 (t:Int),bool true]))/\Two A B c d F (Fi c s z) t w'/\Chg (λk=>¬F k) w w':=h.call λo h1=>ahi w w h1.g Z ok z
theorem Two.step(h:Two A B c d F s t w)(Z:OkC c)(ok:OkM c s)(z:Int) :Calls ZP 44 #[pointer (some ⟨A.P,0,none⟩),int i64 z] w λe w'=>e=.returned (bool (Ou c s z))/\Two A B c d F (PA c s z) t w'/\Chg (λk=>¬F k) w w':=h.call λo h1=>aq2 w w h1.g Z ok z
theorem Two.cancel(h:Two A B c d F s t w)(Z:OkC c)(ok:OkM c s) :Calls ZP 21 #[pointer (some ⟨A.P,0,none⟩)] w λe w'=>e=.returned (bool (!(s.cancelled || Fd s)))/\Two A B c d F (LN s) t w'/\Chg (λk=>¬F k) w w':=h.call λo h1=>apX w w h1.g Z ok.wl
theorem Two.over(h:Two A B c d F s t w)(Z:OkC c)(ok:OkM c s) :Calls ZP 16 #[pointer (some ⟨A.P,0,none⟩)] w λe w'=>e=.returned (bool (Fd s))/\Two A B c d F s t w'/\Bt w w':=h.calm λo h1=>ahx w h1 Z ok.wl
theorem Two.status(h:Two A B c d F s t w)(Z:OkC c)(ok:OkM c s) :Calls ZP 37 #[pointer (some ⟨A.P,0,none⟩)] w λe w'=>e=.returned (.agg #[.int .u8 (Ow c s).1,int i64 (Ow c s).2])/\Two A B c d F s t w'/\Bt w w':=h.calm λo h1=>aq9 w w h1.g Z ok.wl
theorem Two.took(h:Two A B c d F s t w)(ok:OkM c s) :Calls ZP 41 #[pointer (some ⟨A.P,0,none⟩)] w λe w'=>(∃v,e=.returned v/\Ax w' w.heap.size v s.took)/\Two A B c d F s t w'/\Bt w w':=h.calm λo h1=>(aqr w w h1.g ok.tol2).mono λe w' ⟨v,h2,h3,h4⟩=>⟨⟨v,h2,h3⟩,h4⟩
theorem Two.enabled(h:Two A B c d F s t w)(Y:OkC c)(ok:OkM c s) :Calls ZP 29 #[pointer (some ⟨A.P,0,none⟩)] w λe w'=>(∃a X,e=.returned (slice a (II c s).length X)/\Sl1 (int i64) w' a (II c s).length (enF c s (c.W+3)))/\Two A B c d F s t w'/\Bt w w':=
 h.calm λo h1=>(adu w h1 Y ok).mono λe w' ⟨v,h2,h3,h4⟩=>by
  obtain⟨a,X,rfl,_,V⟩:=Co (enc:=int i64) h3;have Z:(enF c s (c.W+3)).length=(II c s).length:=by rw[ak5,BP]
  rw[Z]at h2 V;exact⟨⟨a,X,h2,V⟩,h4⟩
theorem Two.view(h:Two A B c d F s t w)(Y:OkC c)(ok:OkM c s)(X:EE c s) :Calls ZP 34 #[pointer (some ⟨A.P,0,none⟩)] w λe w'=>(∃v0 v3 v4 Z,e=.returned (.agg (vwC v0 v3 v4 Z (Br c s)))/\VwS w' w.heap.size v0 v3 v4 Z (Br c s))/\Two A B c d F s t w'/\Bt w w':=h.calm λo h1=>(aqY w h1 Y ok X).mono λe w' ⟨v0,v3,v4,Z,h2,h3,h4⟩=>⟨⟨v0,v3,v4,Z,h2,h3⟩,h4⟩
end
structure TwW(A B:PAd)(F:Nat->Prop)(i j:Nat)(V:World):Prop where
 o:Two A B (cW false []) (cW true [false]) F (sP i) (sQ j) V
structure TwE(A B:PAd)(F:Nat->Prop)(j:Nat)(V:World):Prop where
 o:Two A B (cW false []) (cW true [false]) F (sP 200) (sE j) V
section
variable {A B:PAd}{F:Nat->Prop}{i j:Nat}{w w':World}
theorem TwW.same(h:TwW A B F i j w)(Z:Bt w w'):TwW A B F i j w':=⟨h.o.same Z⟩
theorem TwE.more{G:Nat->Prop}(h:TwE A B F j w)(Z:Bt w w')(Y:∀k,G k->F k∨w.heap.size<=k/\k<w'.heap.size):TwE A B G j w':=⟨h.o.more Z Y⟩
theorem TwE.same(h:TwE A B F j w)(Z:Bt w w'):TwE A B F j w':=⟨h.o.same Z⟩
def PU(e:Ending):Prop:=∃x y,e=.returned (.tuple #[int i64 x,bool y])
theorem Pd(c:CfM)(s:PlM)(z:Int):PU (.returned (.tuple (match EZ c s z with|none=>#[int i64 0,bool false]|some t=>#[int i64 (t:Int),bool true]))):=by cases EZ c s z<;>exact⟨_,_,rfl⟩
theorem TwW.pickA(h:TwW A B F i j w)(Z:i<300):Calls ZP 17 #[pointer (some ⟨A.P,0,none⟩),int i64 (i:Int)] w λe w'=>PU e/\TwW A B F (i+1) j w'/\Chg (λk=>¬F k) w w':=by refine(h.o.pick Ov (okW (PG i) om) i).mono ?_;rintro e w' ⟨rfl,h1,h2⟩;exact⟨Pd _ _ _,⟨by rw[ard];exact h1⟩,h2⟩
theorem TwW.pickB(h:TwW A B F i j w)(Z:j<300):Calls ZP 17 #[pointer (some ⟨B.P,0,none⟩),int i64 (j:Int)] w λe w'=>PU e/\TwW A B F i (j+1) w'/\Chg (λk=>¬F k) w w':=by refine(h.o.symm.pick Ov (okW (PC j) om) j).mono ?_;rintro e w' ⟨rfl,h1,h2⟩;exact⟨Pd _ _ _,⟨by rw[arb];exact h1.symm⟩,h2⟩
theorem TwE.pickB(h:TwE A B F j w)(Z:j<300):Calls ZP 17 #[pointer (some ⟨B.P,0,none⟩),int i64 0] w λe w'=>PU e/\TwE A B F (j+1) w'/\Chg (λk=>¬F k) w w':=by refine(h.o.symm.pick Ov (okW (PL j) om) 0).mono ?_;rintro e w' ⟨rfl,h1,h2⟩;exact⟨Pd _ _ _,⟨by rw[ar7];exact h1.symm⟩,h2⟩
theorem TwW.viewB(h:TwW A B F i j w)(y:j<300):Calls ZP 34 #[pointer (some ⟨B.P,0,none⟩)] w λe w'=>(∃v0 v3 v4 X V Y C D H I J N U Z,e=.returned (.agg #[v0,int i64 I,int i64 J,v3,v4,int i64 N,slice X V Y,int i64 U,bool C,bool D,bool H,int i64 Z])/\V<=2)/\TwW A B F i j w'/\Bt w w':=by refine(h.o.symm.view Ov (okW (PC j) om) (PC j).p).mono ?_;rintro e w' ⟨⟨v0,v3,v4,z,rfl,h0⟩,h1,h2⟩;obtain⟨X,Y,rfl,_,_⟩:=Co h0.r6;refine⟨⟨v0,v3,v4,X,_,Y,_,_,_,_,_,_,_,_,rfl,?_⟩,⟨h1.symm⟩,h2⟩;exact AS (PN (sQ j).us (sQ j).us.length) (by rw[(PC j).p.b.ul];decide)
theorem TwW.statB(h:TwW A B F 200 200 w):Calls ZP 37 #[pointer (some ⟨B.P,0,none⟩)] w λe w'=>e=.returned (.agg #[.int .u8 1,int i64 0])/\TwW A B F 200 200 w'/\Bt w w':=by
 refine(h.o.symm.status Ov (okW (PC 200) om)).mono ?_;rintro e w' ⟨rfl,h1,h2⟩;have Z:Ow (cW true [false]) (sQ 200)=(1,0):=by unfold Ow;rw[PK.1];rfl
 exact⟨by rw[Z],⟨h1.symm⟩,h2⟩
theorem TwW.overB(h:TwW A B F 200 200 w):Calls ZP 16 #[pointer (some ⟨B.P,0,none⟩)] w λe w'=>e=.returned (bool false)/\TwW A B F 200 200 w'/\Bt w w':=by refine(h.o.symm.over Ov (okW (PC 200) om)).mono ?_;rintro e w' ⟨rfl,h1,h2⟩;exact⟨by rw[PK.1],⟨h1.symm⟩,h2⟩
theorem TwW.tookB(h:TwW A B F 200 200 w):Calls ZP 41 #[pointer (some ⟨B.P,0,none⟩)] w λe w'=>(∃a Z,e=.returned (slice a 0 Z))/\TwW A B F 200 200 w'/\Bt w w':=by refine(h.o.symm.took (okW (PC 200) om)).mono ?_;rintro e w' ⟨⟨v,rfl,h0⟩,h1,h2⟩;rw[PK.2.1]at h0;obtain⟨a,Z,rfl,_,_⟩:=Gy h0;exact⟨⟨a,Z,rfl⟩,⟨h1.symm⟩,h2⟩
theorem TwW.enB(h:TwW A B F 200 200 w):Calls ZP 29 #[pointer (some ⟨B.P,0,none⟩)] w λe w'=>(∃a Z,e=.returned (slice a 1 Z))/\TwW A B F 200 200 w'/\Bt w w':=by refine(h.o.symm.enabled Ov (okW (PC 200) om)).mono ?_;rintro e w' ⟨⟨a,Z,rfl,_⟩,h1,h2⟩;exact⟨⟨a,Z,by rw[PK.2.2.1]⟩,⟨h1.symm⟩,h2⟩
theorem TwW.canB(h:TwW A B F 200 200 w):Calls ZP 21 #[pointer (some ⟨B.P,0,none⟩)] w λe w'=>e=.returned (bool true)/\TwE A B F 0 w'/\Chg (λk=>¬F k) w w':=by refine(h.o.symm.cancel Ov (okW (PC 200) om)).mono ?_;rintro e w' ⟨rfl,h1,h2⟩;exact⟨by rw[PK.1,PK.2.2.2];rfl,⟨h1.symm⟩,h2⟩
theorem TwE.canB(h:TwE A B F 0 w):Calls ZP 21 #[pointer (some ⟨B.P,0,none⟩)] w λe w'=>e=.returned (bool false)/\TwE A B F 0 w'/\Chg (λk=>¬F k) w w':=by
 have Z:(sE 0).cancelled=true:=by decide+kernel
 refine(h.o.symm.cancel Ov (okW (PL 0) om)).mono ?_;rintro e w' ⟨rfl,h1,h2⟩;have Y:LN (sE 0)=sE 0:=by unfold LN;rw[Z];rfl
 rw[Y]at h1;exact⟨by rw[Z];rfl,⟨h1.symm⟩,h2⟩
theorem TwE.viewB(h:TwE A B F 60 w):Calls ZP 34 #[pointer (some ⟨B.P,0,none⟩)] w λe w'=>(∃v0 v3 v4 Z,e=.returned (.agg (vwC v0 v3 v4 Z (vwE true)))/\VwS w' w.heap.size v0 v3 v4 Z (vwE true))/\TwE A B F 60 w'/\Bt w w':=by refine(h.o.symm.view Ov (okW (PL 60) om) (PL 60).p).mono ?_;rintro e w' ⟨h0,h1,h2⟩;rw[ark]at h0;exact⟨h0,⟨h1.symm⟩,h2⟩
theorem TwE.statB(h:TwE A B F 60 w):Calls ZP 37 #[pointer (some ⟨B.P,0,none⟩)] w λe w'=>e=.returned (.agg #[.int .u8 3,int i64 0])/\TwE A B F 60 w'/\Bt w w':=by
 refine(h.o.symm.status Ov (okW (PL 60) om)).mono ?_;rintro e w' ⟨rfl,h1,h2⟩;have Z:Ow (cW true [false]) (sE 60)=(3,0):=by unfold Ow;rw[PZ.1,PZ.2.1];rfl
 exact⟨by rw[Z],⟨h1.symm⟩,h2⟩
theorem TwE.enB(h:TwE A B F 60 w):Calls ZP 29 #[pointer (some ⟨B.P,0,none⟩)] w λe w'=>(∃a Z,e=.returned (slice a 0 Z))/\TwE A B F 60 w'/\Bt w w':=by refine(h.o.symm.enabled Ov (okW (PL 60) om)).mono ?_;rintro e w' ⟨⟨a,Z,rfl,_⟩,h1,h2⟩;exact⟨⟨a,Z,by rw[PZ.2.2]⟩,⟨h1.symm⟩,h2⟩
theorem TwE.tookA(h:TwE A B F 60 w):Calls ZP 41 #[pointer (some ⟨A.P,0,none⟩)] w λe w'=>(∃a Z,e=.returned (slice a 3 Z)/\Hts w' a 3 [(4,1),(4,0),(5,2)])/\TwE A B F 60 w'/\Bt w w':=by refine(h.o.took (okW (PG 200) om)).mono ?_;rintro e w' ⟨⟨v,rfl,h0⟩,h1,h2⟩;rw[PH.2.1]at h0;obtain⟨a,Z,rfl,_,Y,_⟩:=Gy h0;exact⟨⟨a,Z,rfl,Y,by unfold I64;decide⟩,⟨h1⟩,h2⟩
theorem TwE.statA(h:TwE A B F 60 w):Calls ZP 37 #[pointer (some ⟨A.P,0,none⟩)] w λe w'=>e=.returned (.agg #[.int .u8 2,int i64 0])/\TwE A B F 60 w'/\Bt w w':=by
 refine(h.o.status Ov (okW (PG 200) om)).mono ?_;rintro e w' ⟨rfl,h1,h2⟩;have Z:Ow (cW false []) (sP 200)=(2,0):=by unfold Ow;rw[PH.1,PH.2.2.1];rfl
 exact⟨by rw[Z],⟨h1⟩,h2⟩
theorem TwE.overA(h:TwE A B F 60 w):Calls ZP 16 #[pointer (some ⟨A.P,0,none⟩)] w λe w'=>e=.returned (bool true)/\TwE A B F 60 w'/\Bt w w':=by refine(h.o.over Ov (okW (PG 200) om)).mono ?_;rintro e w' ⟨rfl,h1,h2⟩;exact⟨by rw[PH.1],⟨h1⟩,h2⟩
theorem TwE.canA(h:TwE A B F 60 w):Calls ZP 21 #[pointer (some ⟨A.P,0,none⟩)] w λe w'=>e=.returned (bool false)/\TwE A B F 60 w'/\Chg (λk=>¬F k) w w':=by
 refine(h.o.cancel Ov (okW (PG 200) om)).mono ?_;rintro e w' ⟨rfl,h1,h2⟩;have Z:LN (sP 200)=sP 200:=by unfold LN;rw[PH.1,Bool.or_true];rfl
 rw[Z]at h1;exact⟨by rw[PH.1,Bool.or_true];rfl,⟨h1⟩,h2⟩
theorem TwE.stepA(h:TwE A B F 60 w):Calls ZP 44 #[pointer (some ⟨A.P,0,none⟩),int i64 0] w λe w'=>e=.returned (bool false)/\TwE A B F 60 w'/\Chg (λk=>¬F k) w w':=by
 have Z:Ou (cW false []) (sP 200) 0=false:=by unfold Ou;rw[show(0:Int).toNat=0 from rfl,PH.2.2.2,Bool.and_false]
 refine(h.o.step Ov (okW (PG 200) om) 0).mono ?_;rintro e w' ⟨rfl,h1,h2⟩;have Y:PA (cW false []) (sP 200) 0=sP 200:=by unfold PA;rw[Z];rfl
 rw[Y]at h1;exact⟨by rw[Z],⟨h1⟩,h2⟩
theorem TwE.viewA(h:TwE A B F 60 w):Calls ZP 34 #[pointer (some ⟨A.P,0,none⟩)] w λe w'=>(∃v0 v3 v4 Z,e=.returned (.agg (vwC v0 v3 v4 Z (vwE false)))/\VwS w' w.heap.size v0 v3 v4 Z (vwE false))/\TwE A B F 60 w'/\Bt w w':=by refine(h.o.view Ov (okW (PG 200) om) (PG 200).p).mono ?_;rintro e w' ⟨h0,h1,h2⟩;rw[arj]at h0;exact⟨h0,⟨h1⟩,h2⟩
end
theorem PW(w:World):Calls ZP 60 #[] w λe w'=>∃a,e=.returned (.agg (AM false (some a) 3 3))/\Wds w' (some a) 3 heW/\Bt w w':=by
 have kc:=aql;go_enter func60,ntmps60;go_wp2;obtain⟨H,V⟩:∃H,H=w.alloc (.cells #[bool false,slice (some ⟨w.heap.size+1+1+1+1,0,none⟩) 3 3] 24):=⟨_,rfl⟩;rw[<-V];have y:H.heap.size=w.heap.size+1:=by rw[V];simp
 have n1:H.heap[w.heap.size]?=some (.cells #[bool false,slice (some ⟨w.heap.size+1+1+1+1,0,none⟩) 3 3] 24 (0,0)):=by rw[V];exact AT _ _
 have B1:Bt w H:=by rw[V];exact AL _ _
 clear V;obtain⟨I,X⟩:∃I,I=H.alloc (.cells #[.int .u8 104,.int .u8 101] 5 (2,3)):=⟨_,rfl⟩;rw[<-X];have z:I.heap.size=w.heap.size+1+1:=by rw[X];simp[y]
 have y1:Bys I (some ⟨w.heap.size+1,0,none⟩) 2 [104,101]:=by rw[X];exact PO [104,101] sm _ _ y
 have x:Bt H I:=by rw[X];exact AL _ _
 clear X;obtain⟨J,Y⟩:∃J,J=I.alloc (.cells #[.int .u8 115,.int .u8 104,.int .u8 101] 5 (3,4)):=⟨_,rfl⟩;rw[<-Y];have z3:J.heap.size=w.heap.size+1+1+1:=by rw[Y];simp[z]
 have h:Bys J (some ⟨w.heap.size+1+1,0,none⟩) 3 [115,104,101]:=by rw[Y];exact PO [115,104,101] sm _ _ z
 have A:Bt I J:=by rw[Y];exact AL _ _
 clear Y;obtain⟨N,Z⟩:∃N,N=J.alloc (.cells #[.int .u8 104,.int .u8 101,.int .u8 114] 5 (3,4)):=⟨_,rfl⟩;rw[<-Z];have z4:N.heap.size=w.heap.size+1+1+1+1:=by rw[Z];simp[z3]
 have j:Bys N (some ⟨w.heap.size+1+1+1,0,none⟩) 3 [104,101,114]:=by rw[Z];exact PO [104,101,114] sm _ _ z3
 have B:Bt J N:=by rw[Z];exact AL _ _
 clear Z;obtain⟨C,U⟩:∃C,C=N.alloc (.cells #[slice (some ⟨w.heap.size+1,0,none⟩) 2 2,slice (some ⟨w.heap.size+1+1,0,none⟩) 3 3,slice (some ⟨w.heap.size+1+1+1,0,none⟩) 3 3] 32):=⟨_,rfl⟩;rw[<-U];have s:Sl1 (λv:Option Addr×Nat×Nat=>slice v.1 v.2.1 v.2.2) C (some ⟨w.heap.size+1+1+1+1,0,none⟩) 3 [(some ⟨w.heap.size+1,0,none⟩,2,2),(some ⟨w.heap.size+1+1,0,none⟩,3,3),(some ⟨w.heap.size+1+1+1,0,none⟩,3,3)]:=by rw[U];exact Sl1.lay (α:=Option Addr×Nat×Nat) _ N [(some ⟨w.heap.size+1,0,none⟩,2,2),(some ⟨w.heap.size+1+1,0,none⟩,3,3),(some ⟨w.heap.size+1+1+1,0,none⟩,3,3)] _ _ z4
 have D:Bt N C:=by rw[U];exact AL _ _
 clear U;have n5:C.heap[w.heap.size]?=_:=(D.block _ om).trans ((B.block _ om).trans ((A.block _ om).trans ((x.block _ om).trans n1)));refine Vf (results_cell_row rfl _ _ w.heap.size _ _ _ _ rfl n5 underlying24 rfl kr) rfl ⟨_,rfl,?_,?_⟩
 ·exact arl s (((y1.below A).below B).below D) ((h.below B).below D) (j.below D) (AC _) (AC _) (AC _)
 ·exact B1.trans ((x.trans ((A.trans ((B.trans (D.mono om)).mono om)).mono om)).mono om)
theorem aqT(w:World):Calls ZP 54 #[pointer none,.agg (Ee 0 0 0 0 0 0 0),pointer none,pointer none] w λe w'=>e=.returned (.tuple #[pointer none,int i64 2])/\Bt w w':=by have Z:=AA (AL w (.cells (Ee 0 0 0 0 0 0 0) 26));go_enter func54,ntmps54;go_wp2;go_ret2;exact⟨rfl,Z.out⟩
theorem aqp(m:Nat)(w:World):Calls ZP 54 #[pointer (some ⟨m,0,none⟩),.agg (Ee 0 0 0 0 0 0 0),pointer none,pointer none] w λe w'=>e=.returned (.tuple #[pointer none,int i64 270])/\Bt w w':=by
 obtain⟨W,hW⟩:∃W,W=w.alloc (.cells (Ee 0 0 0 0 0 0 0) 26):=⟨_,rfl⟩;have X:=AA (AL w (.cells (Ee 0 0 0 0 0 0 0) 26));rw[<-hW]at X;have Z:W.heap[w.heap.size]?=some (.cells (Ee 0 0 0 0 0 0 0) 26 (0,0)):=by rw[hW];exact AT _ _
 have A:W.cell? ⟨w.heap.size,0,none⟩=some (int i64 0):=by simp[cell?,Z]
 have B:W.cell? ⟨w.heap.size,1,none⟩=some (int i64 0):=by simp[cell?,Z]
 have C:W.cell? ⟨w.heap.size,2,none⟩=some (int i64 0):=by simp[cell?,Z]
 have D:W.cell? ⟨w.heap.size,3,none⟩=some (int i64 0):=by simp[cell?,Z]
 have H:W.cell? ⟨w.heap.size,4,none⟩=some (int i64 0):=by simp[cell?,Z]
 have I:W.cell? ⟨w.heap.size,5,none⟩=some (int i64 0):=by simp[cell?,Z]
 have J:W.cell? ⟨w.heap.size,6,none⟩=some (int i64 0):=by simp[cell?,Z]
 have U:=NG 0 0 0 0 0 0 0 W;have N:Ce 0 0 0 0 0 0 0=false:=by decide
 rw[N]at U;have V:=AA U;clear U N Z;go_enter func54,ntmps54;go_upto_region 1 with fail
 rw[<-hW];clear hW
 go_wp2_with fail
 refine V.out.mono ?_;rintro e y ⟨rfl,Y⟩;have z:=AA (X.out.trans (Y.mono X.out.size));clear Y A B C D H I J;go_wp2;go_ret2;exact⟨rfl,z.out⟩
theorem aq7(w:World):Calls ZP 29 #[pointer none] w λe w'=>e=.returned (slice none 0 0)/\Bt w w':=by have Z:=AA (AH w.heap.size w);go_enter func29,ntmps29;go_wp2;go_ret;exact⟨rfl,Z.out⟩
theorem aqu(w:World):Calls ZP 16 #[pointer none] w λe w'=>e=.returned (bool false)/\Bt w w':=by have Z:=AA (AH w.heap.size w);go_enter func16,ntmps16;go_wp2;go_ret;exact⟨rfl,Z.out⟩
theorem aqt(n:Int)(w:World):Calls ZP 17 #[pointer none,int i64 n] w λe w'=>e=.returned (.tuple #[int i64 0,bool false])/\Bt w w':=by
 have X:=AA (aq7 w);go_enter func17,ntmps17
 go_wp2_with (first|(go_at_call 29;refine X.out.mono ?_;rintro e U ⟨rfl,Z⟩;have Y:=AA Z;clear Z)|(go_at_call 43;refine(acE n none 0 0 [] _ ⟨rfl,.inl rfl⟩ om).mono ?_;rintro e V ⟨rfl,rfl⟩))
 go_ret2;exact⟨rfl,Y.out⟩
end Go.Proofs.YtaamacoicojhnaaGreat
