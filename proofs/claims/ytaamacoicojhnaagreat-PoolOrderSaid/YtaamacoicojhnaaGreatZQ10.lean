/- Proofs over the given program, part 10. -/
import Derived.Test.YtaamacoicojhnaaGreatZQ9
set_option linter.unusedVariables false
set_option linter.unusedSimpArgs false
set_option maxRecDepth 100000
set_option maxHeartbeats 16000000
open Go.Proofs.Tryz
open Go.Proofs.Tryz renaming prog→ZP
open Go.World(cell? frozen?)
open Option renaming some→E,none→O
open Go.Value renaming int→R,slice→T,pointer→L,bool→i6,tuple→ta,agg→i8
open Go.IntKind renaming i64→K
open Bool renaming false→M,true→G
open Go renaming World→Wa,Value→Vk
open Go.Ending renaming returned→ra
open Go.Obj renaming cells→i7
open List renaming length→lc
namespace Go.Proofs.YtaamacoicojhnaaGreat
open Go.RowKit Go.Sort
theorem aqy{A:PAd}{c:CfM}{s:PlM}{o:Nat->Nat}(w W:Wa)(h:AE A c o s w W)(az:OkC c)(hl:lc s.wk=c.W)(hx:s.next<=1000000000)(hu:lc s.us<=1000000)(hq:lc s.q<=1000000) :Calls ZP 34 #[.pointer (E ⟨A.P,0,O⟩)] W λe w'=>∃v0 v3 v4 v6,e=ra (i8 #[v0,.int .i64 (s.next:Int),.int .i64 (s.number:Int),v3,v4,.int .i64 (lc s.out:Int),v6,.int .i64 (lc s.fr:Int),.bool s.shut,.bool s.ended,.bool s.cancelled,.int .i64 (s.read:Int)])/\
   w'.ownsRow W.heap.size 5 1 v0 (c.W+3) ((phF c s (c.W+3)).map (Value.int .u8))/\FR w' W.heap.size v3 (s.q.map λb=>(b.num:Int))/\FR w' W.heap.size v4 ((Ga s.next s.rg c.R).map λx:Nat=>(x:Int))/\FR w' W.heap.size v6 (Oy s.us (lc s.us))/\La W w':=by
 obtain⟨D,hD⟩:∃D,D=W.alloc (i7 #[T O 0 0,R K 0,R K 0,T O 0 0,T O 0 0,R K 0,T O 0 0,R K 0,i6 M,i6 M,i6 M,R K 0] 63):=⟨_,rfl⟩;have aj:La W D:=by rw[hD];exact AL _ _
 have hG:=h.bel aj;have J:Hid (∀U,La D U->U.cell? ⟨A.P,11,O⟩=E (L (E ⟨A.Bb,0,O⟩))/\U.cell? ⟨A.P,12,O⟩=E (L (E ⟨A.Q,0,O⟩))/\U.cell? ⟨A.P,13,O⟩=E (L (E ⟨A.G,0,O⟩))/\U.cell? ⟨A.P,14,O⟩=E (L (E ⟨A.O,0,O⟩))/\U.cell? ⟨A.P,16,O⟩=E (R K (s.number:Int))/\U.cell? ⟨A.P,17,O⟩=E (R K (s.read:Int))/\U.cell? ⟨A.P,19,O⟩=E (i6 s.cancelled)):=λU hU=>by have hu:=hG.bel hU;exact⟨hu.ceP 11 _ λ_=>rfl,hu.ceP 12 _ λ_=>rfl,hu.ceP 13 _ λ_=>rfl,hu.ceP 14 _ λ_=>rfl,hu.ceP 16 _ λ_=>rfl,hu.ceP 17 _ λ_=>rfl,hu.ceP 19 _ λ_=>rfl⟩
 have bw:Hid (∀U,La D U->Calls ZP 66 #[L (E ⟨A.G,0,O⟩)] U λe w'=>e=ra (R K (s.next:Int))/\w'=U):=λU hU=>(hG.bel hU).low λo1 h1=>aoh h1;have bv:Hid (∀U,La D U->Calls ZP 67 #[L (E ⟨A.G,0,O⟩)] U λe w'=>∃v,e=ra v/\FR w' U.heap.size v ((Ga s.next s.rg c.R).map λx:Nat=>(x:Int))/\La U w'):=λU hU=>(hG.bel hU).low λo1 h1=>ap0 h1 hx;have bu:Hid (∀U,La D U->Calls ZP 68 #[L (E ⟨A.O,0,O⟩)] U λe w'=>e=ra (R K (lc s.out:Int))/\La U w'):=λU hU=>(hG.bel hU).low λo1 h1=>ap6 h1;have bt:Hid (∀U,La D U->Calls ZP 69 #[L (E ⟨A.Bb,0,O⟩)] U λe w'=>∃v,e=ra v/\FR w' U.heap.size v (Oy s.us (lc s.us))/\La U w'):=λU hU=>(hG.bel hU).low λo1 h1=>aqz U (h1.part 4 om) hu;have bq:Hid (∀U,La D U->Calls ZP 70 #[L (E ⟨A.Bb,0,O⟩)] U λe w'=>e=ra (R K (lc s.fr:Int))/\w'=U):=λU hU=>(hG.bel hU).low λo1 h1=>by
  have:=aqs U (h1.part 4 om)
  rwa[BP]at this
 have bp:Hid (∀U,La D U->Calls ZP 71 #[L (E ⟨A.Q,0,O⟩)] U λe w'=>e=ra (i6 s.shut)/\La U w'):=λU hU=>(hG.bel hU).low λo1 h1=>alC h1;have bo:Hid (∀U,La D U->Calls ZP 72 #[L (E ⟨A.O,0,O⟩)] U λe w'=>e=ra (i6 s.ended)/\La U w'):=λU hU=>(hG.bel hU).low λo1 h1=>akY h1;have bm:Hid (∀U,La D U->∃l:List PcW,l.map (λp=>p.num)=s.q.map (λb=>(b.num:Int))/\Calls ZP 73 #[L (E ⟨A.Q,0,O⟩)] U λe w'=>∃v,e=ra v/\PF w' U.heap.size v l/\La U w'):=λU hU=>(hG.bel hU).low λo1 h1=>by obtain⟨first,ps,g1,g2,g3⟩:Gm A c s (λk=>o1 k=5) (λk=>o1 k=0) U:=h1.part 5 om;exact⟨_,ara g2 g3,aqK U g1⟩
 have HT:Hid (∀U,La D U->U.cell? ⟨A.P,15,O⟩=E (T (E ⟨A.TT,0,O⟩) (c.W+3) A.tc)/\∀t,t<c.W+3->U.cell? ⟨A.TT,t,O⟩=E (.iface (tyT c t) (L (E ⟨adT A c t,0,O⟩)))/\Calls ZP 320 #[L (E ⟨adT A c t,0,O⟩)] U λe w'=>e=ra (.int .u8 (phT c s t:Nat))/\La U w'):=λU hU=>by have hu:=hG.bel hU;exact⟨hu.ceP 15 _ λ_=>rfl,λt ht=>hu.low λo1 h1=>⟨h1.task t ht,aqx U h1 az hl t ht⟩⟩
 obtain⟨N,hN⟩:∃N,c.W+3=N:=⟨_,rfl⟩;have c9:N<=100:=by have:=az.W;omega
 rw[hN]at HT⊢;have bJ:=AA hq;clear h hG hl hx hu hN az hq;go_enter func34,ntmps34;go_upto_region 1 with fail
 rw[<-hD];have af:Hid (W.heap.size<D.heap.size/\D.heap[W.heap.size]?=E (i7 #[T O 0 0,R K 0,R K 0,T O 0 0,T O 0 0,R K 0,T O 0 0,R K 0,i6 M,i6 M,i6 M,R K 0] 63 (0,0))):=by rw[hD];exact⟨by simp,AT _ _⟩
 have bl:=AA aj;obtain⟨R0,aq⟩:∃Ra,W.heap.size=Ra:=⟨_,rfl⟩;have bI:=AA aq;rw[aq]at af⊢;clear hD aj;go_upto_region 3 with fail
 refine Ve ?_;refine Vd (S:=La D) kr (AN D 1) (λhHeld=>?_);obtain⟨w8,aW⟩:∃X,X=D.drew:=⟨_,rfl⟩;rw[<-aW]at hHeld⊢;clear aW;refine tkB 0 J.out ?_;refine tkB 1 J.out ?_;refine tkB 2 J.out ?_;refine tkB 3 J.out ?_;refine tkB 5 J.out ?_;refine tkB 6 J.out ?_;refine tkB 7 J.out ?_;refine tkB 8 J.out ?_;refine tkB 9 J.out ?_;refine tkB 10 J.out ?_;refine tkB 11 J.out ?_;refine tkB 12 J.out ?_;refine tkB 14 J.out ?_;refine tkB 15 J.out ?_;refine tkB 16 J.out ?_;refine tkB 17 J.out ?_;refine tkB 19 J.out ?_;refine tkB 20 J.out ?_;refine tkB 21 J.out ?_;refine tkB 22 J.out ?_;refine tkB 24 J.out ?_;refine tkB 25 J.out ?_;refine tkB 26 J.out ?_;refine tkB 27 J.out ?_;refine tkB 29 J.out ?_;refine tkB 30 J.out ?_;refine tkB 31 J.out ?_;refine tkB 32 J.out ?_;refine tkB 34 J.out ?_;refine tkB 35 J.out ?_;refine tkB 36 J.out ?_;refine tkB 37 J.out ?_;refine tkB 39 J.out ?_;refine tkB 40 J.out ?_;refine tkB 41 J.out ?_;refine tkB 42 J.out ?_;refine tkB 43 J.out ?_;refine tkB 44 J.out ?_;refine tkB 45 J.out ?_;refine tkB 46 J.out ?_;refine apJ 48 (λv V=>∃p,v=L (E ⟨p,0,O⟩)/\V.heap[p]?=E (i7 #[T O 0 0,R K 0,R K 0,T O 0 0,T O 0 0,R K 0,T O 0 0,R K 0,i6 M,i6 M,i6 M,R K 0] 63 (0,0))/\D.heap.size<=p) ?_ ?_ (λF=>?_)
 ·rintro _ V V' ⟨p,rfl,b,h⟩ C;exact⟨p,rfl,(C.block _ (AD.1 b).1).trans b,h⟩
 ·intro f V Z _ KB I;go_simp;exact I _ _ (Z.alloc Z.size _) ⟨_,rfl,AT _ _,Z.size⟩ (AL _ _)
 refine Oo F 4 (λv _=>v=R K (s.next:Int)) ?_ ?_
 ·rintro f (rfl|⟨vk,rfl⟩) V Z-KB I<;>(try simp only[pq]at I⊢)<;>go_simp<;>(go_at_call 66;refine(bw.out V Z).mono ?_;rintro e V2 ⟨rfl,rfl⟩;exact I _ _ Z rfl (AH _ _))
 rintro _ w1 hHeld-rfl
 try simp only[pq]
 refine Oo F 13 (λv V=>(∃a n cc,v=T a n cc)/\FR V D.heap.size v ((Ga s.next s.rg c.R).map λx:Nat=>(x:Int))) ?_ ?_
 ·rintro f (rfl|⟨vk,rfl⟩) V Z-KB I<;>(try simp only[pq]at I⊢)<;>go_simp<;>(go_at_call 67;refine(bv.out V Z).mono ?_;rintro e V2 ⟨v,rfl,ho,Y⟩;exact I _ _ (Z.trans (Y.mono Z.size)) ⟨by obtain⟨a,cc,h⟩:=aqP ho;exact⟨_,_,_,h⟩,NC ho Z.size⟩ Y)
 rintro _ w2 hHeld-⟨⟨a4,n4,c4,rfl⟩,H⟩
 try simp only[pq]
 refine Oo F 18 (λv _=>v=R K (lc s.out:Int)) ?_ ?_
 ·rintro f (rfl|⟨vk,rfl⟩) V Z-KB I<;>(try simp only[pq]at I⊢)<;>go_simp<;>(go_at_call 68;refine(bu.out V Z).mono ?_;rintro e V2 ⟨rfl,Y⟩;exact I _ _ (Z.trans (Y.mono Z.size)) rfl Y)
 rintro _ w3 hHeld C rfl
 replace H:=DJ H C
 clear C
 try simp only[pq]
 refine Oo F 23 (λv V=>(∃a n cc,v=T a n cc)/\FR V D.heap.size v (Oy s.us (lc s.us))) ?_ ?_
 ·rintro f (rfl|⟨vk,rfl⟩) V Z-KB I<;>(try simp only[pq]at I⊢)<;>go_simp<;>(go_at_call 69;refine(bt.out V Z).mono ?_;rintro e V2 ⟨v,rfl,ho,Y⟩;exact I _ _ (Z.trans (Y.mono Z.size)) ⟨by obtain⟨a,cc,h⟩:=aqP ho;exact⟨_,_,_,h⟩,NC ho Z.size⟩ Y)
 rintro _ w4 hHeld C ⟨⟨a6,n6,c6,rfl⟩,a2⟩
 replace H:=DJ H C
 clear C
 try simp only[pq]
 refine Oo F 28 (λv _=>v=R K (lc s.fr:Int)) ?_ ?_
 ·rintro f (rfl|⟨vk,rfl⟩) V Z-KB I<;>(try simp only[pq]at I⊢)<;>go_simp<;>(go_at_call 70;refine(bq.out V Z).mono ?_;rintro e V2 ⟨rfl,rfl⟩;exact I _ _ Z rfl (AH _ _))
 rintro _ w5 hHeld C rfl
 replace H:=DJ H C
 replace a2:=DJ a2 C
 clear C
 try simp only[pq]
 refine Oo F 33 (λv _=>v=i6 s.shut) ?_ ?_
 ·rintro f (rfl|⟨vk,rfl⟩) V Z-KB I<;>(try simp only[pq]at I⊢)<;>go_simp<;>(go_at_call 71;refine(bp.out V Z).mono ?_;rintro e V2 ⟨rfl,Y⟩;exact I _ _ (Z.trans (Y.mono Z.size)) rfl Y)
 rintro _ w6 hHeld C rfl
 replace H:=DJ H C
 replace a2:=DJ a2 C
 clear C
 try simp only[pq]
 refine Oo F 38 (λv _=>v=i6 s.ended) ?_ ?_
 ·rintro f (rfl|⟨vk,rfl⟩) V Z-KB I<;>(try simp only[pq]at I⊢)<;>go_simp<;>(go_at_call 72;refine(bo.out V Z).mono ?_;rintro e V2 ⟨rfl,Y⟩;exact I _ _ (Z.trans (Y.mono Z.size)) rfl Y)
 rintro _ w7 hHeld C rfl
 replace H:=DJ H C
 replace a2:=DJ a2 C
 clear C
 try simp only[pq]
 obtain⟨B,a7⟩:∃X:Array Vk,#[T O 0 0,R K (s.next:Int),R K (s.number:Int),T O 0 0,T a4 n4 c4,R K (lc s.out:Int),T a6 n6 c6,R K (lc s.fr:Int),i6 s.shut,i6 s.ended,i6 s.cancelled,R K (s.read:Int)]=X:=⟨_,rfl⟩;have bk:Hid (ZP.built 63 [(1,R K (s.next:Int)),(2,R K (s.number:Int)),(4,T a4 n4 c4),(5,R K (lc s.out:Int)),(6,T a6 n6 c6),(7,R K (lc s.fr:Int)),(8,i6 s.shut),(9,i6 s.ended),(10,i6 s.cancelled),(11,R K (s.read:Int))]=E B):=by rw[Hid,<-a7];exact arg _ _ _ _ _ _ _ _ _ _ _ _ _ _
 have aP:=AA a7;have av:Hid (B.size=12):=by rw[Hid,<-a7];rfl
 have be:Hid (B.all (·.oneCell')=G):=by rw[Hid,<-a7];simp[Value.oneCell']
 have bb:Hid ((ZP.info? 63).map (·.size)=E B.size):=by rw[Hid,av.out];kernel_rfl
 clear a7;refine apH F 47 (v:=i8 B) ?_ ?_
 ·rintro f (rfl|⟨vk,rfl⟩)<;>(try simp only[pq])<;>exact Iz (by rfl) _ _ rfl B (by go_simp;exact bk.out)
 try simp only[pq]
 refine apI F ?_;rintro _ w9 hHeld C-⟨p,rfl,bP,hp⟩
 replace H:=DJ H C
 replace a2:=DJ a2 C
 clear C F
 try simp only[pq]
 refine rdy 49 (λKB I=>?_);rw[Lq (by rfl)];refine wp_store_row 63 _ _ rfl p B (by rfl) (by rfl) 63 _ bP bb.out (by rw[av.out];rfl) be.out ?_;refine I.out _ _ (MF hHeld hp _) (λaa=>?_);clear I KB
 try simp only[pq]
 refine Vg kr ?_ _;refine At ?_;obtain⟨X1,al⟩:∃X,X=w9.setRow p B:=⟨_,rfl⟩;have bX:X1.heap[p]?=E (i7 B 63 (0,0)):=by rw[al];exact setRow_heap w9 p _ _ _ _ bP
 have cX:Chg (λk=>k=p) w9 X1:=by rw[al];exact⟨rfl,rfl,rfl,by simp,λk _ hk=>setRow_other w9 p k _ hk⟩
 have aB:(T a4 n4 c4).ownBlock≠E p:=Pa H bP (by decide);have aA:(T a6 n6 c6).ownBlock≠E p:=Pa a2 bP (by decide);have b6:Hid (FR X1 D.heap.size (T a4 n4 c4) ((Ga s.next s.rg c.R).map λx:Nat=>(x:Int))):=PI H cX aB;have b5:Hid (FR X1 D.heap.size (T a6 n6 c6) (Oy s.us (lc s.us))):=PI a2 cX aA;rw[<-al]at aa⊢;have aY:p<X1.heap.size:=(AD.1 bX).1;have aw:Hid ((T a4 n4 c4).ownBlock≠E p/\(T a6 n6 c6).ownBlock≠E p):=⟨aB,aA⟩;have bj:=AA bX;have a8:=AA aa;have ae:Hid (D.heap.size<=p/\p<X1.heap.size):=⟨hp,aY⟩;clear al cX H a2 bP hHeld aB aA bw bv bu bt bq bp bo bk be bb bX aY hp;obtain⟨f15,_⟩:=HT.out X1 aa;go_upto_region 5 with fail
 clear f15 aa
 go_loopw[64] (λay wr=>∃(i:Nat)(v0:Vk),i<=N/\ay=R K i/\Hid (VwL X1 p 0 B 5 v0 i ((phF c s i).map (Value.int .u8)) wr)) (λay _=>N-(intOf ay).toNat)
 case atStart=>
  refine⟨0,T O 0 0,AR _,rfl,.refl _ _,?_,BN _ _ _ _⟩;rw[bj.out,<-aP.out]
  rfl
 case round=>
  obtain⟨i,v0,bV,rfl,HV⟩:=hrel;have HD:Hid (La D wr):=a8.out.trans (HV.out.c.below a8.out.size λk hk=>by have:=ae.out.1;omega)
  by_cases b1:i<N
  ·have hd:decide ((i:Int)<N)=G:=by simp;omega
   obtain⟨-,hk⟩:=HT.out wr HD.out;obtain⟨aX,-⟩:=hk i b1;obtain⟨ty,aG⟩:∃ty,tyT c i=ty:=⟨_,rfl⟩;have bS:∀n Ta w,Sem.run ZP (method (n+1) ty (L (E ⟨Ta,0,O⟩)) "teasel/pool.phase") w=.ok (320,L (E ⟨Ta,0,O⟩)) w:=λn Ta w=>by rw[<-aG];exact ar2 _ (Jv c i) n Ta w
   obtain⟨Ta,aM⟩:∃Ta,adT A c i=Ta:=⟨_,rfl⟩;obtain⟨ph,aI⟩:∃x,phT c s i=x:=⟨_,rfl⟩;have HQ:Hid (∀V,La D V->Calls ZP 320 #[L (E ⟨Ta,0,O⟩)] V λe w'=>e=ra (.int .u8 (ph:Nat))/\La V w'):=λV Z=>by have:=((HT.out V Z).2 i b1).2;rw[aM,aI]at this;exact this
   have aO:Hid ((phF c s (i+1)).map (Value.int .u8)=(phF c s i).map (Value.int .u8)++[.int .u8 (ph:Nat)]):=by rw[Hid,aqX,aI,Aj];rfl
   rw[aG,aM]at aX;obtain⟨a0,c0,rfl,_,_,_⟩:=Gy HV.out.r;have i1:(0:Int)<=(i:Int):=by omega
   have i2:(i:Int)<(N:Int):=by omega
   clear hk aG aM aI;go_upto_region 7 with fail
   obtain⟨U0,ao⟩:∃X,X=wr.drew:=⟨_,rfl⟩;have aL:La wr U0:=by rw[ao];exact AN wr 1
   have b7:=AA (HV.out.bel aL);have bh:=AA (HD.out.trans (aL.mono HD.out.size));have bK:Hid (∀V,La U0 V->V.cell? ⟨p,0,O⟩=E (T a0 i c0)):=λV Z=>(b7.out.bel Z).cell (by rw[av.out];decide);clear aX aL HV HD;refine Ve ?_;refine Vd (S:=La D) kr (by rw[<-ao];exact bh.out) (λar=>?_);rw[<-ao];clear ao ar;have c8:=bh.out;refine tkA 0 ?_;refine tkA 2 ?_;refine arh 1 (λv _=>v=T a0 i c0) (λf=>f.tmps[68]?.getD undef=L (E ⟨p,0,O⟩)) (λ_ _ _ h _=>h) ?_ (λF=>?_)
   ·intro f V hG Z h0 KB I;have q0:=bK.out V h0;go_simp;exact I _ _ Z rfl (AH _ _)
   refine Oo F 3 (λv _=>v=.int .u8 (ph:Nat)) ?_ ?_
   ·rintro f (rfl|⟨vk,rfl⟩) V Z-KB I<;>(try simp only[pq]at I⊢)<;>go_simp<;>(go_at_call 320;refine(HQ.out V Z).mono ?_;rintro e V2 ⟨rfl,Y⟩;exact I _ _ (Z.trans (Y.mono Z.size)) rfl Y)
   rintro _ u1 c7-rfl
   try simp only[pq]
   refine Oo F 4 (λv V=>∃q,v=T (E ⟨q,0,O⟩) 1 1/\V.heap[q]?=E (i7 #[.int .u8 (ph:Nat)] 5 (0,0))) ?_ ?_
   ·rintro f (rfl|⟨vk,rfl⟩) V Z-KB I<;>(try simp only[pq]at I⊢)<;>go_simp<;>exact I _ _ (Z.alloc Z.size _) ⟨_,rfl,AT _ _⟩ (AL _ _)
   rintro _ u2 bZ-⟨q,rfl,hq⟩
   try simp only[pq]
   refine apI F ?_;rintro _ u3 bY ac aj rfl
   try simp only[pq]
   obtain⟨i0,hi,aE,aD,aC⟩:=Vh aqU;obtain⟨a1,c1,W1,hr,aK,bA,bC,ag⟩:=b7.out.app (ty:=32) ae.out.2 (by rw[av.out];decide) aj ((ac.block q (AD.1 hq).1).trans hq) rfl om underlying32 hi aE aD aC (by decide) rfl;have HR:=AA hr;have aN:=AA ag;have af:Hid (La D W1):=a8.out.trans (aK.below a8.out.size λk hk=>by have:=ae.out.1;omega);have bN:Hid (La D (W1.setCell ⟨p,0,O⟩ (.slice a1 (i+1) c1))):=a8.out.trans (ag.c.below a8.out.size λk hk=>by have:=ae.out.1;omega);refine rdy 5 (λKB I=>?_);refine GU (.tmp 69) (.tmp 72) 32 rfl _ _ rfl rfl rfl HR.out ?_;refine I.out _ _ af.out (λh5=>?_);clear I KB
   try simp only[pq]
   refine tkA 6 ?_;refine rdy 7 (λKB I=>?_);go_simp;refine I.out _ _ bN.out (λh7=>?_);clear I KB
   try simp only[pq]
   refine Vg kr ?_ _;refine At ?_;go_wp2
   go_roundw
   case rel=>exact⟨i+1,_,by omega,by go_num,by rw[aO.out];exact aN⟩
   case measure=>simp[intOf];omega
  ·obtain rfl:i=N:=by omega
   have hd:decide ((i:Int)<i)=M:=by simp
   obtain⟨a0,c0,rfl,_,_,_⟩:=Gy HV.out.r;have aV:(T a0 i c0).ownBlock≠E p:=λe=>by have:=(Gw HV.out.r p e).1;have:=ae.out.2;omega
   obtain⟨l,hl,ai⟩:=bm.out wr HD.out;have HL:=AA hl;have bi:=AA ai;obtain⟨_,bx,_,_,_,_,_⟩:=J.out wr HD.out;clear hl ai HT bm;go_upto_region 10 with(go_at_call 73;refine bi.out.mono ?_;rintro e w3 ⟨vp,rfl,hP,ac⟩;obtain⟨ap,cp,rfl,_,aH⟩:=SlK.own hP)
   have aT:Hid (La D w3):=HD.out.trans (ac.mono HD.out.size);have cW:Chg (λk=>k=p) X1 w3:=HV.out.c.same ac;have ak:=AA (HV.out.bel ac);have aZ:=(AD.1 ak.out.b).1;have bG:Hid (w3.ownsRow D.heap.size 5 1 (T a0 i c0) i ((phF c s i).map (Value.int .u8))):=NC ak.out.r a8.out.size;have bF:Hid (FR w3 D.heap.size (T a4 n4 c4) ((Ga s.next s.rg c.R).map λx:Nat=>(x:Int))):=PI b6.out cW aw.out.1;have bE:Hid (FR w3 D.heap.size (T a6 n6 c6) (Oy s.us (lc s.us))):=PI b5.out cW aw.out.2;have aJ:=Pa hP ak.out.b (by decide);obtain⟨n,hn⟩:∃n,lc l=n:=⟨_,rfl⟩;rw[hn]at aH aJ⊢;have bd:Hid ((T ap n cp).ownBlock≠E p/\(T a0 i c0).ownBlock≠E p):=⟨aJ,aV⟩;have bH:=AA aH;have bR:n<=1000000:=by have h1:=congrArg List.length HL.out;rw[BP,BP,hn]at h1;rw[h1];exact bJ.out
   have aQ:=AA hn;have b9:=AA aZ;obtain⟨C2,au⟩:∃X:Array Vk,B.setIfInBounds 0 (T a0 i c0)=X:=⟨_,rfl⟩;have aU:Hid (C2.setIfInBounds 3 (T O 0 0)=C2/\C2.size=12):=by rw[Hid,<-au,<-aP.out];exact⟨rfl,rfl⟩
   have Y:=ak.out.b;rw[au]at Y;have bQ:=AA Y;have bO:=AA au;clear ac hP aH hn au Y aJ aV cW bx J b6 b5 HV HD ak bj bi aZ
   go_loopw[82] (λax wr=>∃(j:Nat)(v3:Vk),j<=n/\ax=R K j/\Hid (VwL w3 p 3 C2 3 v3 j ((l.take j).map λq=>R K q.num) wr)) (λax _=>n-(intOf ax).toNat)
   case atStart=>exact⟨0,T O 0 0,AR _,rfl,.refl _ _,by rw[aU.out.1];exact bQ.out,BN _ _ _ _⟩
   case round=>
    obtain⟨j,v3,bT,rfl,HV⟩:=hrel;have HD:Hid (La D wr):=aT.out.trans (HV.out.c.below aT.out.size λk hk=>by have:=ae.out.1;omega)
    by_cases bU:j<n
    ·have bB:decide ((j:Int)<n)=G:=by simp;omega
     obtain⟨x,hx⟩:∃x,l[j]?=E x:=⟨_,Ar (by have:=aQ.out;omega)⟩;obtain⟨y0,y1,y2,y3,y4⟩:=ag4 hx;obtain⟨b,o,e,b0,hc⟩:=bH.out.2.resolve_left om;subst e;have ab:wr.heap[b]?=w3.heap[b]?:=HV.out.c.block b b0 λe=>bd.out.1 (by rw[e];rfl);have z0:wr.cell? ⟨b,o+j*5,O⟩=E (R K x.num):=(BC (a:=⟨b,o+j*5,O⟩) ab).trans (hc _ _ y0);have z1:wr.cell? ⟨b,o+j*5+1,O⟩=E (R K x.start):=(BC (a:=⟨b,o+j*5+1,O⟩) ab).trans (hc _ _ y1);have z2:wr.cell? ⟨b,o+j*5+2,O⟩=E (R K x.warm):=(BC (a:=⟨b,o+j*5+2,O⟩) ab).trans (hc _ _ y2);have z3:wr.cell? ⟨b,o+j*5+3,O⟩=E (T x.a x.m x.c):=(BC (a:=⟨b,o+j*5+3,O⟩) ab).trans (hc _ _ y3);have z4:wr.cell? ⟨b,o+j*5+4,O⟩=E (R K x.buf):=(BC (a:=⟨b,o+j*5+4,O⟩) ab).trans (hc _ _ y4);have i1:(0:Int)<=(j:Int):=by omega
     have i2:(j:Int)<(n:Int):=by omega
     clear y0 y1 y2 y3 y4 hc ab b0;go_upto_region 12 with fail
     obtain⟨a3,c3,rfl,_,_,_⟩:=Gy HV.out.r;obtain⟨V1,am⟩:∃X,X=wr.alloc (i7 #[R K x.num,R K x.start,R K x.warm,T x.a x.m x.c,R K x.buf] 126):=⟨_,rfl⟩;have b3:La wr V1:=by rw[am];exact AL _ _
     have hg:V1.heap[wr.heap.size]?=E (i7 #[R K x.num,R K x.start,R K x.warm,T x.a x.m x.c,R K x.buf] 126 (0,0)):=by rw[am];exact AT _ _
     have bz:wr.heap.size≠p:=by have:=b9.out;have:=HV.out.c.size;omega
     rw[<-am];obtain⟨g,b2⟩:∃g,wr.heap.size=g:=⟨_,rfl⟩;have aF:=HV.out.bel b3;have b4:=AL V1 (i7 #[.int .i64 x.num] 3);obtain⟨i0,hi,aE,aD,aC⟩:=Vh aqM;obtain⟨a1,c1,W1,hr,aK,bA,bC,ag⟩:=aF.app (ty:=30) b9.out (by rw[aU.out.2];decide) b4 (AT V1 (i7 #[.int .i64 x.num] 3)) rfl om underlying30 hi aE aD aC (by decide) rfl;have HR:=AA hr;have aO:Hid (((l.take (j+1)).map λq=>Value.int .i64 q.num)=((l.take j).map λq=>Value.int .i64 q.num)++[.int .i64 x.num]):=by rw[Hid,LH,hx,Aj];rfl
     have aN:Hid (VwL w3 p 3 C2 3 (T a1 (j+1) c1) (j+1) ((l.take (j+1)).map λq=>R K q.num) (W1.setCell ⟨p,3,O⟩ (T a1 (j+1) c1))):=by rw[Hid,aO.out];exact ag
     have q0:=aF.cell (show 3<C2.size by rw[aU.out.2];decide);rw[b2]at hg⊢;have q1:V1.cell? ⟨g,0,O⟩=E (R K x.num):=by simp[cell?,hg]
     clear z0 z1 z2 z3 z4 HV HD am b3 hg bz b2 hx aF b4 hr aK ag
     go_wp2_with (at_builtin;refine aaf rfl (.tmp 87) (.tmp 91) 30 rfl rfl rfl HR.out ?_)
     go_roundw
     case rel=>exact⟨j+1,_,by omega,by go_num,aN⟩
     case measure=>simp[intOf];omega
    ·obtain rfl:j=n:=by omega
     have bB:decide ((j:Int)<j)=M:=by simp
     obtain⟨a3,c3,rfl,_,_,_⟩:=Gy HV.out.r;obtain⟨F,hF⟩:∃X:Array Vk,C2.setIfInBounds 3 (T a3 j c3)=X:=⟨_,rfl⟩;have C:=HV.out.b;rw[hF]at C;have bL:=AA C;have aS:Hid (F=#[T a0 i c0,R K (s.next:Int),R K (s.number:Int),T a3 j c3,T a4 n4 c4,R K (lc s.out:Int),T a6 n6 c6,R K (lc s.fr:Int),i6 s.shut,i6 s.ended,i6 s.cancelled,R K (s.read:Int)]):=by
      rw[Hid,<-hF,<-bO.out,<-aP.out]
      rfl
     have bg:Hid (F.size=12):=by rw[Hid,aS.out];rfl
     have aR:Hid ((ZP.info? 63).map (·.size)=E F.size):=by rw[Hid,bg.out];kernel_rfl
     have bM:Hid (F.all (·.oneCell')=G):=by rw[Hid,aS.out];simp[Value.oneCell']
     have b8:Hid (wr.heap[R0]?=E (i7 #[T O 0 0,R K 0,R K 0,T O 0 0,T O 0 0,R K 0,T O 0 0,R K 0,i6 M,i6 M,i6 M,R K 0] 63 (0,0))):=(HD.out.block _ af.out.1).trans af.out.2;have HE:=AA aq;have bf:Hid ((l.take j).map (λq=>R K q.num)=(s.q.map λb=>(b.num:Int)).map (R K)/\j=(s.q.map λb=>(b.num:Int)).length):=by
      have h1:=HL.out;refine⟨?_,?_⟩
      ·rw[Ap (by have:=aQ.out;omega),<-h1,List.map_map]
       rfl
      ·rw[<-h1,BP];exact aQ.out.symm
     clear hF C aq;go_upto_region 14 with fail
     go_wp2_with (first
      |(refine wpList_load_row rfl 63 _ rfl p rfl 63 F (0,0) _ bL.out underlying63 rfl aR.out ?_)
      |(refine wpList_store_row rfl 63 _ _ rfl R0 F rfl rfl 63 _ b8.out aR.out (by rw[bg.out];rfl) bM.out ?_))
     refine Vi (results_cell_row rfl _ _ R0 63 F (0,0) _ (by rfl) (setRow_heap wr R0 _ _ _ _ b8.out) underlying63 rfl aR.out) rfl ?_;have bD:W.heap.size<=D.heap.size:=bl.out.size;have rs:∀{e:TypeId}{m base:Nat}{v:Vk}{xs:List Vk},D.heap.size<=base->wr.ownsRow base e 1 v m xs->(wr.setRow R0 F).ownsRow W.heap.size e 1 v m xs:=λbW h=>NC (Fu h λk hk=>setRow_other wr R0 k F (by have:=(Gw h k hk).1;have:=af.out.1;omega)) om;have r3:=rs aT.out.size HV.out.r;rw[bf.out.1]at r3;refine⟨.slice a0 i c0,.slice a3 j c3,.slice a4 n4 c4,.slice a6 n6 c6,by rw[aS.out],rs (AC _) (PI bG.out HV.out.c bd.out.2),?_,rs (AC _) (PI bF.out HV.out.c aw.out.1),rs (AC _) (PI bE.out HV.out.c aw.out.2),MF (bl.out.trans (HD.out.mono bD)) (by have:=bI.out;omega) F⟩;unfold FR;rw[<-bf.out.2];exact r3
structure VwX where
 ph:List Int
 next:Int
 number:Int
 q:List Int
 rg:List Int
 out:Int
 live:List Int
 free:Int
 shut:Bool
 ended:Bool
 canc:Bool
 read:Int
def Br(c:CfM)(s:PlM):VwX:=⟨phF c s (c.W+3),s.next,s.number,s.q.map λb=>(b.num:Int),(Ga s.next s.rg c.R).map λx:Nat=>(x:Int),lc s.out,Oy s.us (lc s.us),lc s.fr,s.shut,s.ended,s.cancelled,s.read⟩
structure VwS(w:World)(m:Nat)(v0 v3 v4 v6:Value)(x:VwX):Prop where
 r0:w.ownsRow m 5 1 v0 x.ph.length (x.ph.map (Value.int .u8))
 r3:FR w m v3 x.q
 r4:FR w m v4 x.rg
 r6:FR w m v6 x.live
 by_:∀a∈x.ph,0<=a/\a<=255
 ln:x.q.length<=1000000/\x.rg.length<=1000000/\x.live.length<=1000000/\x.ph.length<=1000000
abbrev vwC(v0 v3 v4 Z:Vk)(x:VwX):Array Vk:=#[v0,R K x.next,R K x.number,v3,v4,R K x.out,Z,R K x.free,i6 x.shut,i6 x.ended,i6 x.canc,R K x.read]
theorem VwS.keep{Y:Nat->Prop}{w w':Wa}{m:Nat}{v0 v3 v4 Z:Vk}{x:VwX}(h:VwS w m v0 v3 v4 Z x)(V:Chg Y w w')(X:∀k,m<=k->k<w.heap.size->¬Y k):VwS w' m v0 v3 v4 Z x:=
 have rs:∀{e:TypeId}{n:Nat}{v:Vk}{xs:List Vk},w.ownsRow m e 1 v n xs->w'.ownsRow m e 1 v n xs:=λh=>Fu h λk hk=>V.block k (Gw h k hk).2 (X k (Gw h k hk).1 (Gw h k hk).2)
 ⟨rs h.r0,rs h.r3,rs h.r4,rs h.r6,h.by_,h.ln⟩
theorem VwS.below{w w':Wa}{m:Nat}{v0 v3 v4 Z:Vk}{x:VwX}(h:VwS w m v0 v3 v4 Z x)(X:La w w'):VwS w' m v0 v3 v4 Z x:=h.keep (Y:=λ_=>False) (.of_same X) λ_ _ _ h=>h
theorem aqn(n:Nat)(rg:List (Option (List AF))):∀j,(Ga n rg j).length<=j
 |0=>AC _
 |j+1=>by
  have:=aqn n rg j;unfold Ga;rw[List.length_append]
  split<;>simp<;>omega
theorem aqY{A:PAd}{c:CfM}{s:PlM}{o:Nat->Nat}(W:Wa)(h:AI A c o s W)(Z:OkC c)(ok:OkM c s)(V:EE c s) :Calls ZP 34 #[L (E ⟨A.P,0,O⟩)] W λe w'=>∃v0 v3 v4 Y,e=ra (i8 (vwC v0 v3 v4 Y (Br c s)))/\VwS w' W.heap.size v0 v3 v4 Y (Br c s)/\La W w':=by
 have h1:=V.b.ul;have h2:=Z.R;have h3:=V.a.f.ql;have h4:=Z.Q;refine(aqy W W h.g Z ok.wl ok.nxt om om).mono ?_;rintro e w' ⟨v0,v3,v4,Y,rfl,r0,r3,r4,r6,N⟩;refine⟨v0,v3,v4,Y,rfl,⟨?_,r3,r4,r6,λa ha=>?_,?_,?_,?_,?_⟩,N⟩
 ·have e:(Br c s).ph.length=c.W+3:=aqN _ _ _;rw[e];exact r0
 ·have ha:a∈phF c s (c.W+3):=ha;unfold phF at ha;obtain⟨t,_,rfl⟩:=Be.1 ha;have X:=V.a.r;unfold phT
  split
  ·have:=X.ph;omega
  ·split
   ·unfold phW
    split
    ·omega
    ·rename_i x U
     have:=X.wp _ x U;omega
   ·split
    ·have:=X.mp;omega
    ·have:=X.ep;omega
 ·show(s.q.map λb=>(b.num:Int)).length<=1000000;rw[BP];omega
 ·show((Ga s.next s.rg c.R).map λx:Nat=>(x:Int)).length<=1000000;rw[BP];have:=aqn s.next s.rg c.R;omega
 ·show(Oy s.us (lc s.us)).length<=1000000;have:=PN s.us (lc s.us);omega
 ·show(phF c s (c.W+3)).length<=1000000;rw[aqN];have:=Z.W;omega
theorem aqr{A:PAd}{c:CfM}{s:PlM}{o:Nat->Nat}(w W:Wa)(h:AE A c o s w W)(ht:lc s.took<=1000000) :Calls ZP 41 #[L (E ⟨A.P,0,O⟩)] W λe w'=>∃v,e=ra v/\Ax w' W.heap.size v s.took/\La W w':=by
 obtain⟨a,n,Z,X,U,Y⟩:∃a n Z,lc s.took=n/\W.cell? ⟨A.P,18,O⟩=E (T a n Z)/\SlK 2 W a n (AV s.took):=h.low λo1 h1=>by obtain⟨tv,I,g2,J,g4⟩:=h1.part 1 om;obtain⟨a,Z,rfl,_,Y⟩:=SlK.own J.1;exact⟨a,_,Z,rfl,by simp only[cell?,I];rfl,Y⟩
 have C:=AA (aqB a n Z (AV s.took) W Y (λu N=>MC _ u N) om);have D:=AA X;clear h Y X;go_enter func41,ntmps41
 go_wp2_with (go_at_call 77;refine C.out.mono ?_;rintro e j ⟨v,rfl,ho,V⟩;have H:=AA ho;have B:=AA V;clear ho V)
 go_ret;refine⟨_,rfl,?_,B.out⟩;have:=H.out;rw[<-D.out]at this;exact this
def Ow(c:CfM)(s:PlM):Int×Int:=if Fd s=G then(if s.cancelled then(3,0) else if c.br then(4,s.read) else(2,0)) else(1,0)
theorem PQ{fn:Func}{p:Tmp}{tmps:Array Vk}{W:Wa}{B:Nat}{x y:Vk}(h:fn.results=#[.cell p 66])(Y:tmps.getD p undef=L (E ⟨B,0,O⟩))(hB:W.heap[B]?=E (i7 #[x,y] 66 (0,0))) :(results fn tmps).run ZP W=.ok (i8 #[x,y]) W:=by
 have X:(loadVar 66 ⟨B,0,O⟩).run ZP W=.ok (i8 #[x,y]) W:=run_loadVar_row W B 66 66 #[x,y] (0,0) _ hB underlying66 rfl kr;have Z:tmps[p]?.getD undef=.pointer (E ⟨B,0,O⟩):=by simpa using Y
 simp[results,h,Z,asAddr,X,Result.andThen]
def Ou(c:CfM)(s:PlM)(z:Int):Bool:=decide (0<=z)&&decide (z<(c.W+3:Nat))&&Bj c s z.toNat
def PA(c:CfM)(s:PlM)(z:Int):PlM:=if Ou c s z=G then Bi c s z.toNat else s
theorem aqG{A:PAd}{c:CfM}{s:PlM}{o:Nat->Nat}(w W:Wa)(h:AE A c o s w W)(X:OkC c)(ok:OkM c s)(t:Nat)(U:t<c.W+3)(J:Bj c s t=M) :Calls ZP 44 #[L (E ⟨A.P,0,O⟩),R K (t:Int)] W λe w'=>e=ra (i6 M)/\AE A c o s w w':=by
 obtain⟨N,I⟩:∃N,c.W+3=N:=⟨_,rfl⟩;have B:W.cell? ⟨A.P,15,O⟩=E (T (E ⟨A.TT,0,O⟩) N A.tc):=h.ceP 15 _ λ_=>by rw[<-I];rfl
 have C:W.cell? ⟨A.TT,t,O⟩=E (.iface (tyT c t) (L (E ⟨adT A c t,0,O⟩))):=h.low λD h1=>h1.task t U;have H:Hid (Calls ZP 321 #[L (E ⟨adT A c t,0,O⟩)] W λe w'=>e=ra (i6 M)/\La W w'):=h.low λD h1=>by
  have:=acu W h1 X ok t U
  rwa[J]at this
 obtain⟨ty,Z⟩:∃ty,tyT c t=ty:=⟨_,rfl⟩;have v:∀n Ta w,Sem.run ZP (method (n+1) ty (L (E ⟨Ta,0,O⟩)) "teasel/pool.ready") w=.ok (321,L (E ⟨Ta,0,O⟩)) w:=λn Ta w=>by rw[<-Z];exact agX _ (Jv c t) n Ta w
 obtain⟨Ta,Y⟩:∃Ta,adT A c t=Ta:=⟨_,rfl⟩;rw[Y]at H;rw[Z,Y]at C;have j:=AA h;have d0:decide ((t:Int)<0)=M:=by simp
 have d1:decide ((t:Int)>=(N:Int))=M:=by simp;omega
 have d2:decide ((N:Int)<=(t:Int))=M:=by simp;omega
 have d3:decide (N<=t)=M:=by simp;omega
 have i1:(0:Int)<=(t:Int):=by omega
 have i2:(t:Int)<(N:Int):=by omega
 clear h X ok U J I Y Z;go_enter func44,ntmps44
 go_wp2_with (go_at_call 321;refine H.out.mono ?_;rintro e w1 ⟨rfl,V⟩;have HB:=AA V;clear V)
 go_ret;exact⟨rfl,j.out.bel HB.out⟩
theorem aqo{A:PAd}{c:CfM}{s:PlM}{o:Nat->Nat}(w W:Wa)(h:AE A c o s w W)(z:Int)(Y:z<0∨(c.W+3:Nat)<=z) :Calls ZP 44 #[L (E ⟨A.P,0,O⟩),R K z] W λe w'=>e=ra (i6 M)/\AE A c o s w w':=by
 obtain⟨N,X⟩:∃N,c.W+3=N:=⟨_,rfl⟩;have U:W.cell? ⟨A.P,15,O⟩=E (T (E ⟨A.TT,0,O⟩) N A.tc):=h.ceP 15 _ λ_=>by rw[<-X];rfl
 rw[X]at Y;have V:=AA h;clear h X
 by_cases h0:z<0
 ·have J:decide (z<0)=G:=Vb h0;clear Y;go_enter func44,ntmps44;go_wp2;go_ret;exact⟨rfl,V.out⟩
 ·have J:decide (z<0)=M:=decide_eq_false h0;have Z:(N:Int)<=z:=by omega
  have I:decide ((N:Int)<=z)=G:=Vb Z;clear Y;go_enter func44,ntmps44;go_wp2;go_ret;exact⟨rfl,V.out⟩
theorem aq2{A:PAd}{c:CfM}{s:PlM}{o:Nat->Nat}(w W:Wa)(h:AE A c o s w W)(Z:OkC c)(ok:OkM c s)(z:Int) :Calls ZP 44 #[L (E ⟨A.P,0,O⟩),R K z] W λe w'=>e=ra (i6 (Ou c s z))/\AE A c o (PA c s z) w w':=by
 unfold PA
 by_cases Y:z<0∨(c.W+3:Nat)<=z
 ·have e:Ou c s z=M:=by
   unfold Ou
   rcases Y with h1|h1
   ·rw[decide_eq_false (by omega:¬0<=z)];rfl
   ·rw[decide_eq_false (by omega:¬z<(c.W+3:Nat)),Bool.and_false];rfl
  rw[e,Lc (by decide)];exact aqo w W h z Y
 ·obtain⟨t,rfl⟩:∃t:Nat,z=t:=⟨z.toNat,by omega⟩;have X:t<c.W+3:=by omega
  have e:Ou c s (t:Int)=Bj c s t:=by
   unfold Ou;rw[Vb (by omega:(0:Int)<=t),Vb (by omega:(t:Int)<(c.W+3:Nat)),Aa]
   rfl
  rw[e,Aa]
  cases V:Bj c s t with
  |true=>rw[Lq rfl];exact ahX w W h Z ok t X V
  |false=>rw[Lc (by decide)];exact aqG w W h Z ok t X V
theorem aq9{A:PAd}{c:CfM}{s:PlM}{o:Nat->Nat}(w W:Wa)(h:AE A c o s w W)(j:OkC c)(hl:lc s.wk=c.W) :Calls ZP 37 #[L (E ⟨A.P,0,O⟩)] W λe w'=>e=ra (i8 #[.int .u8 (Ow c s).1,R K (Ow c s).2])/\La W w':=by
 obtain⟨V,hV⟩:∃V,V=W.alloc (i7 #[.int .u8 0,R K 0] 66):=⟨_,rfl⟩;have I:La W V:=by rw[hV];exact AL _ _
 have hG:=h.bel I;have HO:Hid (Calls ZP 16 #[L (E ⟨A.P,0,O⟩)] V λe w'=>e=ra (i6 (Fd s))/\La V w'):=hG.low λo1 h1=>ahx V h1 j hl;have v:Hid (∀U,La V U->U.cell? ⟨A.P,19,O⟩=E (i6 s.cancelled)/\U.cell? ⟨A.P,9,O⟩=E (L (E ⟨A.S,0,O⟩))/\U.cell? ⟨A.P,17,O⟩=E (R K (s.read:Int))/\U.heap[W.heap.size]?=E (i7 #[.int .u8 0,R K 0] 66 (0,0))/\Calls ZP 76 #[L (E ⟨A.S,0,O⟩)] U λe w'=>e=ra (i6 c.br)/\La U w'):=λU D=>by
  have hu:=hG.bel D;have N:V.heap[W.heap.size]?=E (i7 #[.int .u8 0,R K 0] 66 (0,0)):=by rw[hV];exact AT _ _
  refine⟨hu.ceP 19 _ λ_=>rfl,hu.ceP 9 _ λ_=>rfl,hu.ceP 17 _ λ_=>rfl,(D.block _ (AD.1 N).1).trans N,hu.low λo1 h1=>?_⟩;obtain⟨a,n,cc,vs,g1,g2⟩:MM A c s (λk=>o1 k=2) U:=h1.part 2 om;exact aqc U g1
 have HB:=AA I;have a8:A.P≠W.heap.size:=h.low λo1 h1 e=>by obtain⟨tv,g1⟩:=h1.cP;have:=(AD.1 g1).1;omega
 obtain⟨Ob,hO⟩:∃b,Fd s=b:=⟨_,rfl⟩;obtain⟨C,hC⟩:∃b,s.cancelled=b:=⟨_,rfl⟩;obtain⟨B,hB⟩:∃b,c.br=b:=⟨_,rfl⟩;unfold Ow;rw[hO]at HO⊢;rw[hC,hB]at v⊢;obtain⟨S,hS⟩:∃S,W.heap.size=S:=⟨_,rfl⟩;rw[hS]at v a8;clear h hG j hl I hO hC hB
 cases Ob<;>cases C<;>cases B
 all_goals
  go_enter func37,ntmps37;go_upto_region 1 with fail
  rw[<-hV];have Z:=AA hS;clear hV hS;go_upto_region 3 with fail
  go_wp2_with fail
  refine HO.out.mono ?_;rintro e J ⟨rfl,X⟩;obtain⟨ae,k9,af,N,a1⟩:=v.out J X;have ab:=AA a1;have HZ:=AA N;have z0:J.cell? ⟨S,0,O⟩=E (.int .u8 0):=by simp[cell?,N]
  have z1:J.cell? ⟨S,1,O⟩=E (R K 0):=by simp[cell?,N]
  have y0:J.frozen? ⟨S,0,O⟩=M:=by simp[frozen?,N]
  have y1:J.frozen? ⟨S,1,O⟩=M:=by simp[frozen?,N]
  have yl:S<J.heap.size:=(AD.1 N).1;have X1:Hid (La W J):=by rw[Hid];exact HB.out.trans (X.mono HB.out.size)
  have aa:Hid (∀U,La J U->U.cell? ⟨A.P,17,O⟩=E (R K (s.read:Int))/\U.heap[S]?=E (i7 #[.int .u8 0,R K 0] 66 (0,0))/\La W U):=λU D=>⟨(v.out U (X.trans (D.mono X.size))).2.2.1,(v.out U (X.trans (D.mono X.size))).2.2.2.1,X1.out.trans (D.mono X1.out.size)⟩;clear a1 N X HO v HB
  go_wp2_with (go_at_call 76;refine ab.out.mono ?_;rintro e H ⟨rfl,a6⟩;obtain⟨ag,Y,a2⟩:=aa.out H a6;have a7:=AA Y;have z2:H.cell? ⟨S,0,O⟩=E (.int .u8 0):=(by simp[cell?,Y]);have z3:H.cell? ⟨S,1,O⟩=E (R K 0):=(by simp[cell?,Y]);have y2:H.frozen? ⟨S,0,O⟩=M:=(by simp[frozen?,Y]);have y3:H.frozen? ⟨S,1,O⟩=M:=(by simp[frozen?,Y]);have ac:S<H.heap.size:=(AD.1 Y).1;have X2:=AA a2;clear Y a6 a2)
  first
   |exact Vi (PQ rfl rfl (by simpa using AJ (i:=1) (AJ (i:=0) HZ.out (.int .u8 1)) (R K 0))) rfl ⟨rfl,(X1.out.setCell (by rw[Z.out];exact AC _) _).setCell (by rw[Z.out];exact AC _) _⟩
   |exact Vi (PQ rfl rfl (by simpa using AJ (i:=1) (AJ (i:=0) HZ.out (.int .u8 3)) (R K 0))) rfl ⟨rfl,(X1.out.setCell (by rw[Z.out];exact AC _) _).setCell (by rw[Z.out];exact AC _) _⟩
   |exact Vi (PQ rfl rfl (by simpa using AJ (i:=1) (AJ (i:=0) a7.out (.int .u8 4)) (R K (s.read:Int)))) rfl ⟨rfl,(X2.out.setCell (by rw[Z.out];exact AC _) _).setCell (by rw[Z.out];exact AC _) _⟩
   |exact Vi (PQ rfl rfl (by simpa using AJ (i:=1) (AJ (i:=0) a7.out (.int .u8 2)) (R K 0))) rfl ⟨rfl,(X2.out.setCell (by rw[Z.out];exact AC _) _).setCell (by rw[Z.out];exact AC _) _⟩
def cW(br:Bool)(ans:List Bool):CfM:=⟨2,3,2,1,1,2,0,3,scF M heW 2,br,ans⟩
def rW:Lb:=[[117,115,104],[],[101,114,115]]
def nW(n:Nat):List Int:=(List.range n).map λk:Nat=>(k:Int)
theorem aqL(n:Nat):nW (n+1)=nW n++[(n:Int)]:=by unfold nW;rw[El,Aj];rfl
theorem PR{c:CfM}(n:Int):∀(l:List Int)(s:PlM),PJ c s (l++[n])=Fi c (PJ c s l) n
 |[],s=>rfl
 |m::l,s=>PR n l (Fi c s m)
def sP(n:Nat):PlM:=PJ (cW M []) (Bn (cW M []) rW) (nW n)
def sQ(n:Nat):PlM:=PJ (cW G [M]) (Bn (cW G [M]) rW) (nW n)
def sE(n:Nat):PlM:=PJ (cW G [M]) (LN (sQ 200)) (List.replicate n 0)
theorem ard(n:Nat):sP (n+1)=Fi (cW M []) (sP n) n:=by unfold sP;rw[aqL,PR]
theorem arb(n:Nat):sQ (n+1)=Fi (cW G [M]) (sQ n) n:=by unfold sQ;rw[aqL,PR]
theorem ar7(n:Nat):sE (n+1)=Fi (cW G [M]) (sE n) 0:=by unfold sE;rw[List.replicate_succ',PR]
theorem PH:Fd (sP 200)=G/\(sP 200).took=[(4,1),(4,0),(5,2)]/\(sP 200).cancelled=M/\Bj (cW M []) (sP 200) 0=M:=by decide+kernel
theorem PK:Fd (sQ 200)=M/\(sQ 200).took=[]/\(II (cW G [M]) (sQ 200)).length=1/\(sQ 200).cancelled=M:=by decide+kernel
theorem PZ:Fd (sE 60)=G/\(sE 60).cancelled=G/\(II (cW G [M]) (sE 60)).length=0:=by decide+kernel
theorem ar8:(Br (cW G [M]) (sE 60)).ph=[5,4,4,3,2]/\(Br (cW G [M]) (sE 60)).next=2/\(Br (cW G [M]) (sE 60)).number=2/\(Br (cW G [M]) (sE 60)).q=[]/\(Br (cW G [M]) (sE 60)).rg=[]/\(Br (cW G [M]) (sE 60)).out=0/\(Br (cW G [M]) (sE 60)).live=[]/\(Br (cW G [M]) (sE 60)).free=2/\(Br (cW G [M]) (sE 60)).shut=G/\(Br (cW G [M]) (sE 60)).ended=G/\(Br (cW G [M]) (sE 60)).canc=G/\(Br (cW G [M]) (sE 60)).read=6:=by decide+kernel
theorem are:(Br (cW M []) (sP 200)).ph=[5,4,4,3,2]/\(Br (cW M []) (sP 200)).next=2/\(Br (cW M []) (sP 200)).number=2/\(Br (cW M []) (sP 200)).q=[]/\(Br (cW M []) (sP 200)).rg=[]/\(Br (cW M []) (sP 200)).out=0/\(Br (cW M []) (sP 200)).live=[]/\(Br (cW M []) (sP 200)).free=2/\(Br (cW M []) (sP 200)).shut=G/\(Br (cW M []) (sP 200)).ended=G/\(Br (cW M []) (sP 200)).canc=M/\(Br (cW M []) (sP 200)).read=6:=by decide+kernel
def vwE(b:Bool):VwX:=⟨[5,4,4,3,2],2,2,[],[],0,[],2,G,G,b,6⟩
theorem VwX.ext'{x y:VwX}(h1:x.ph=y.ph)(h2:x.next=y.next)(h3:x.number=y.number)(h4:x.q=y.q)(h5:x.rg=y.rg)(h6:x.out=y.out)(h7:x.live=y.live)(h8:x.free=y.free)(h9:x.shut=y.shut)(h10:x.ended=y.ended)(h11:x.canc=y.canc)(Z:x.read=y.read):x=y:=by
 cases x
 cases y
 simp_all
theorem ark:Br (cW G [M]) (sE 60)=vwE G:=by obtain⟨h1,h2,h3,h4,h5,h6,h7,h8,h9,h10,h11,Z⟩:=ar8;exact VwX.ext' h1 h2 h3 h4 h5 h6 h7 h8 h9 h10 h11 Z
theorem arj:Br (cW M []) (sP 200)=vwE M:=by obtain⟨h1,h2,h3,h4,h5,h6,h7,h8,h9,h10,h11,Z⟩:=are;exact VwX.ext' h1 h2 h3 h4 h5 h6 h7 h8 h9 h10 h11 Z
section
variable {br:Bool}{ans:List Bool}
theorem Ov:OkC (cW br ans):=aok (c:=cW br ans) (by show Ce 2 3 2 1 1 2 0=G;decide) (by show 3<=32;decide)
theorem ar3:ML (cW br ans) 400 5:=ao2 (c:=cW br ans) rfl (by decide+kernel)
theorem aqm:FC (cW br ans) 400 5 120 0 (Bn (cW br ans) rW):=FC.new (by show 1<=2;decide) _ (by unfold FS;decide)
theorem PT{s:PlM}:∀(l:List Int)(s:PlM)(n:Nat),FC (cW br ans) 400 5 120 n s->FC (cW br ans) 400 5 120 (n+lc l) (PJ (cW br ans) s l)
 |[],s,n,h=>h
 |m::l,s,n,h=>by
  have:=PT (s:=s) l _ _ (h.pick (by show 3<=256;decide) ar3 m)
  rwa[show n+1+lc l=n+(m::l).length by rw[Ao];omega]at this
theorem okW{s:PlM}{n:Nat}(h:FC (cW br ans) 400 5 120 n s)(Z:n<=3900):OkM (cW br ans) s:=h.ok Ov Z (by decide) (by decide) ar3
end
theorem ar6(n:Nat):(nW n).length=n:=by simp[nW]
theorem PG(n:Nat):FC (cW M []) 400 5 120 n (sP n):=by have:=PT (s:=sP 0) (nW n) _ _ (aqm (br:=M) (ans:=[]));rwa[ar6,DD]at this
theorem PC(n:Nat):FC (cW G [M]) 400 5 120 n (sQ n):=by have:=PT (s:=sP 0) (nW n) _ _ (aqm (br:=G) (ans:=[M]));rwa[ar6,DD]at this
theorem PL(n:Nat):FC (cW G [M]) 400 5 120 (200+n) (sE n):=by have:=PT (s:=sP 0) (List.replicate n 0) _ _ (PC 200).cancel;rwa[CS]at this
theorem aq3(v0 v3 v4 v6 u0 u3 u4 u6:Vk)(x:VwX)(cb:Bool)(w:Wa){m m':Nat}(h:VwS w m v0 v3 v4 v6 x)(k:VwS w m' u0 u3 u4 u6 {x with canc:=cb}) :Calls ZP 36 #[i8 (vwC v0 v3 v4 v6 x),i8 (vwC u0 u3 u4 u6 {x with canc:=cb})] w λe w'=>e=ra (i6 (x.canc==cb))/\La w w':=by
 obtain⟨xs,nx,nu,q,rg,ou,lv,fr,sh,en,ca,re⟩:=x;obtain⟨r0,r3,r4,r6,ai,l3,l4,l6,l0⟩:=h;obtain⟨k0,k3,k4,k6,_,_⟩:=k;dsimp only[vwC]at *;obtain⟨a0,c0,rfl,_,s0⟩:=Co r0;obtain⟨a3,c3,rfl,_,s3⟩:=Co r3;obtain⟨a4,c4,rfl,_,s4⟩:=Co r4;obtain⟨a6,c6,rfl,_,s6⟩:=Co r6;obtain⟨b0,d0,rfl,_,t0⟩:=Co k0;obtain⟨b3,d3,rfl,_,t3⟩:=Co k3;obtain⟨b4,d4,rfl,_,t4⟩:=Co k4;obtain⟨b6,d6,rfl,_,t6⟩:=Co k6;have ak:lc xs<=4611686018427387904:=by omega
 obtain⟨B,aa⟩:∃n,lc xs=n:=⟨_,rfl⟩;obtain⟨C,a8⟩:∃n,lc q=n:=⟨_,rfl⟩;obtain⟨D,a7⟩:∃n,lc rg=n:=⟨_,rfl⟩;obtain⟨H,a2⟩:∃n,lc lv=n:=⟨_,rfl⟩;rw[aa]at s0 t0⊢;rw[a8]at s3 t3 l3⊢;rw[a7]at s4 t4 l4⊢;rw[a2]at s6 t6 l6⊢;obtain⟨W,hW⟩:∃W,W=(w.alloc (i7 #[T a0 B c0,R K nx,R K nu,T a3 C c3,T a4 D c4,R K ou,T a6 H c6,R K fr,i6 sh,i6 en,i6 ca,R K re] 63)).alloc (i7 #[T b0 B d0,R K nx,R K nu,T b3 C d3,T b4 D d4,R K ou,T b6 H d6,R K fr,i6 sh,i6 en,i6 cb,R K re] 63):=⟨_,rfl⟩;have hO:Bx w.heap.size [i7 #[T a0 B c0,R K nx,R K nu,T a3 C c3,T a4 D c4,R K ou,T a6 H c6,R K fr,i6 sh,i6 en,i6 ca,R K re] 63,i7 #[T b0 B d0,R K nx,R K nu,T b3 C d3,T b4 D d4,R K ou,T b6 H d6,R K fr,i6 sh,i6 en,i6 cb,R K re] 63] W:=by rw[hW];exact((Bx.nil _ w).snoc _ rfl).snoc _ sm
 have Z:La w W:=by rw[hW];exact(AL w _).alloc (AL w _).size _
 obtain⟨J,aj⟩:∃y,(w.alloc (i7 #[T a0 B c0,R K nx,R K nu,T a3 C c3,T a4 D c4,R K ou,T a6 H c6,R K fr,i6 sh,i6 en,i6 ca,R K re] 63)).heap.size=y:=⟨_,rfl⟩;have ag:J=w.heap.size+1:=by rw[<-aj];simp
 obtain⟨I,a1⟩:∃y,w.heap.size=y:=⟨_,rfl⟩;have HC:Hid (∀V,La W V->(V.cell? ⟨I,0,O⟩=E (T a0 B c0)/\V.cell? ⟨I,1,O⟩=E (R K nx)/\V.cell? ⟨I,2,O⟩=E (R K nu)/\V.cell? ⟨I,3,O⟩=E (T a3 C c3)/\V.cell? ⟨I,4,O⟩=E (T a4 D c4)/\V.cell? ⟨I,5,O⟩=E (R K ou)/\V.cell? ⟨I,6,O⟩=E (T a6 H c6)/\V.cell? ⟨I,7,O⟩=E (R K fr)/\V.cell? ⟨I,8,O⟩=E (i6 sh)/\V.cell? ⟨I,9,O⟩=E (i6 en)/\V.cell? ⟨I,10,O⟩=E (i6 ca)/\V.cell? ⟨I,11,O⟩=E (R K re))/\V.cell? ⟨J,0,O⟩=E (T b0 B d0)/\V.cell? ⟨J,1,O⟩=E (R K nx)/\V.cell? ⟨J,2,O⟩=E (R K nu)/\V.cell? ⟨J,3,O⟩=E (T b3 C d3)/\V.cell? ⟨J,4,O⟩=E (T b4 D d4)/\V.cell? ⟨J,5,O⟩=E (R K ou)/\V.cell? ⟨J,6,O⟩=E (T b6 H d6)/\V.cell? ⟨J,7,O⟩=E (R K fr)/\V.cell? ⟨J,8,O⟩=E (i6 sh)/\V.cell? ⟨J,9,O⟩=E (i6 en)/\V.cell? ⟨J,10,O⟩=E (i6 cb)/\V.cell? ⟨J,11,O⟩=E (R K re)):=λV A=>by have h:=hO.below A;rw[a1]at h;rw[ag,a1];exact⟨⟨h.cell (i:=0) rfl rfl,h.cell (i:=0) rfl rfl,h.cell (i:=0) rfl rfl,h.cell (i:=0) rfl rfl,h.cell (i:=0) rfl rfl,h.cell (i:=0) rfl rfl,h.cell (i:=0) rfl rfl,h.cell (i:=0) rfl rfl,h.cell (i:=0) rfl rfl,h.cell (i:=0) rfl rfl,h.cell (i:=0) rfl rfl,h.cell (i:=0) rfl rfl⟩,h.cell (i:=1) rfl rfl,h.cell (i:=1) rfl rfl,h.cell (i:=1) rfl rfl,h.cell (i:=1) rfl rfl,h.cell (i:=1) rfl rfl,h.cell (i:=1) rfl rfl,h.cell (i:=1) rfl rfl,h.cell (i:=1) rfl rfl,h.cell (i:=1) rfl rfl,h.cell (i:=1) rfl rfl,h.cell (i:=1) rfl rfl,h.cell (i:=1) rfl rfl⟩
 have I0:Hid (Calls ZP 74 #[T a0 B c0,T b0 B d0] W λe w'=>e=ra (i6 G)/\La W w'):=by
  have:=anw a0 b0 B c0 B d0 xs xs W (s0.below Z) (t0.below Z) (by have:=ak;omega)
  rwa[Vb rfl]at this
 have I3:Hid (∀V,La W V->Calls ZP 75 #[T a3 C c3,T b3 C d3] V λe w'=>e=ra (i6 G)/\La V w'):=λV A=>by
  have:=afE a3 b3 C c3 C d3 q q V ((s3.below Z).below A) ((t3.below Z).below A) om
  rwa[Vb rfl]at this
 have I4:Hid (∀V,La W V->Calls ZP 75 #[T a4 D c4,T b4 D d4] V λe w'=>e=ra (i6 G)/\La V w'):=λV A=>by
  have:=afE a4 b4 D c4 D d4 rg rg V ((s4.below Z).below A) ((t4.below Z).below A) om
  rwa[Vb rfl]at this
 have I6:Hid (∀V,La W V->Calls ZP 75 #[T a6 H c6,T b6 H d6] V λe w'=>e=ra (i6 G)/\La V w'):=λV A=>by
  have:=afE a6 b6 H c6 H d6 lv lv V ((s6.below Z).below A) ((t6.below Z).below A) om
  rwa[Vb rfl]at this
 have HB:=AA Z;have al:=AA a1;obtain⟨⟨q0,q1,q2,q3,q4,q5,q6,j,s,v,X,Y⟩,p0,p1,p2,p3,p4,p5,p6,p7,p8,p9,N,U⟩:=HC.out W (AH _ _);clear r0 r3 r4 r6 ai l3 l4 l6 l0 k0 k3 k4 k6 s0 s3 s4 s6 t0 t3 t4 t6 hO Z ag aa a8 a7 a2
 cases ca<;>cases cb
 all_goals
  subst hW;go_enter func36,ntmps36
  go_wp2_with fail
  refine I0.out.mono ?_;rintro e w0 ⟨rfl,ab⟩;have X0:=AA ab;clear q0 q1 q2 q3 q4 q5 q6 j s v X Y p0 p1 p2 p3 p4 p5 p6 p7 p8 p9 N U ab;obtain⟨⟨q0,q1,q2,q3,q4,q5,q6,j,s,v,X,Y⟩,p0,p1,p2,p3,p4,p5,p6,p7,p8,p9,N,U⟩:=HC.out w0 X0.out
  go_wp2_with fail
  refine(I3.out w0 X0.out).mono ?_;rintro e w1 ⟨rfl,af⟩;have X1:=AA (X0.out.trans (af.mono X0.out.size));clear q0 q1 q2 q3 q4 q5 q6 j s v X Y p0 p1 p2 p3 p4 p5 p6 p7 p8 p9 N U af;obtain⟨⟨q0,q1,q2,q3,q4,q5,q6,j,s,v,X,Y⟩,p0,p1,p2,p3,p4,p5,p6,p7,p8,p9,N,U⟩:=HC.out w1 X1.out
  go_wp2_with fail
  refine(I4.out w1 X1.out).mono ?_;rintro e w2 ⟨rfl,ae⟩;have X2:=AA (X1.out.trans (ae.mono X1.out.size));clear q0 q1 q2 q3 q4 q5 q6 j s v X Y p0 p1 p2 p3 p4 p5 p6 p7 p8 p9 N U ae;obtain⟨⟨q0,q1,q2,q3,q4,q5,q6,j,s,v,X,Y⟩,p0,p1,p2,p3,p4,p5,p6,p7,p8,p9,N,U⟩:=HC.out w2 X2.out
  go_wp2_with fail
  refine(I6.out w2 X2.out).mono ?_;rintro e w3 ⟨rfl,ac⟩;have X3:=AA (X2.out.trans (ac.mono X2.out.size));clear q0 q1 q2 q3 q4 q5 q6 j s v X Y p0 p1 p2 p3 p4 p5 p6 p7 p8 p9 N U ac;obtain⟨⟨q0,q1,q2,q3,q4,q5,q6,j,s,v,X,Y⟩,p0,p1,p2,p3,p4,p5,p6,p7,p8,p9,N,U⟩:=HC.out w3 X3.out;go_wp2;go_ret;exact⟨rfl,HB.out.trans (X3.out.mono HB.out.size)⟩
section
variable {A B:PAd}{c d:CfM}{s s' t t':PlM}{o p:Nat->Nat}{F:Nat->Prop}{w w' w'':Wa}
theorem AI.far{Y:Nat->Prop}(h:AI A c o s w)(X:Chg Y w w')(V:∀k,k<w.heap.size->Y k->o k=1000000):AI A c o s w':=⟨λu U=>(h.part u U).keep X (λk hk e Z=>by have h1:o k=u:=e;have:=V k hk Z;omega) (λk hk e Z=>by have h1:o k=0:=e;have:=V k hk Z;omega),λk hk=>h.out k (AS X.size hk)⟩
def PP(o p:Nat->Nat)(F:Nat->Prop)(w:Wa):Prop:=(∀k,F k->k<w.heap.size/\o k=1000000/\p k=1000000)/\∀k,k<w.heap.size->(Oz o k->p k=1000000)/\(Oz p k->o k=1000000)
theorem PP.symm(h:PP o p F w):PP p o F w:=⟨λk hk=>let⟨a,b,c⟩:=h.1 k hk;⟨a,c,b⟩,λk hk=>(h.2 k hk).symm⟩
def Two(A B:PAd)(c d:CfM)(F:Nat->Prop)(s t:PlM)(w:Wa):Prop:=∃o p,AI A c o s w/\AI B d p t w/\PP o p F w
theorem Two.symm(h:Two A B c d F s t w):Two B A d c F t s w:=let⟨o,p,h1,h2,h3⟩:=h;⟨p,o,h2,h1,h3.symm⟩
theorem Two.more{Gf:Nat->Prop}(h:Two A B c d F s t w)(V:La w w')(U:∀k,Gf k->F k∨w.heap.size<=k/\k<w'.heap.size):Two A B c d Gf s t w':=by
 obtain⟨o,p,h1,h2,h3,h4⟩:=h;have X:Chg (λ_=>False) w w':=.of_same V;refine⟨o,p,h1.far X λ_ _ e=>e.elim,h2.far X λ_ _ e=>e.elim,λk hk=>?_,λk hk=>?_⟩
 ·rcases U k hk with Z|⟨Z,Y⟩
  ·exact⟨Af (h3 k Z).1 X.size,(h3 k Z).2⟩
  ·exact⟨Y,h1.out k Z,h2.out k Z⟩
 ·by_cases Y:k<w.heap.size
  ·exact h4 k Y
  ·exact⟨λe=>absurd (h1.out k om) e.2,λe=>absurd (h2.out k om) e.2⟩
theorem Two.same(h:Two A B c d F s t w)(Z:La w w'):Two A B c d F s t w':=h.more Z λk hk=>.inl hk
theorem AE.two(h:AE A c o s' w w')(Y:AI B d p t w)(ha:PP o p F w):Two A B c d F s' t w'/\Chg (λk=>¬F k) w w':=by
 obtain⟨V,h1,h2,h3⟩:=h;refine⟨⟨V,p,h1,Y.far h3.c λk hk e=>(ha.2 k hk).1 e,λk hk=>⟨Af (ha.1 k hk).1 h3.c.size,h3.f k (ha.1 k hk).1 (ha.1 k hk).2.1,(ha.1 k hk).2.2⟩,λk hk=>?_⟩,h3.c.mono λk _ e U=>e.2 (ha.1 k U).2.1⟩
 by_cases Z:k<w.heap.size
 ·refine⟨λe=>(ha.2 k Z).1 ⟨λX=>e.1 (h2 k X),λX=>e.2 (h3.f k Z X)⟩,λe=>h3.f k Z ((ha.2 k Z).2 e)⟩
 ·exact⟨λ_=>Y.out k om,λe=>absurd (Y.out k om) e.2⟩
theorem Two.call(h:Two A B c d F s t w){f:FuncId}{args:Array Vk}{Ra:Ending->Wa->Prop}(k:∀o,AI A c o s w->Calls ZP f args w λe w'=>Ra e w'/\AE A c o s' w w') :Calls ZP f args w λe w'=>Ra e w'/\Two A B c d F s' t w'/\Chg (λk=>¬F k) w w':=by obtain⟨o,p,h1,h2,h3⟩:=h;refine(k o h1).mono ?_;rintro e w' ⟨Z,Y⟩;exact⟨Z,Y.two h2 h3⟩
theorem Chg.belF{b:Nat}(h:Chg (λk=>¬k<b) w w')(Z:b<=w.heap.size):Below b w w':=h.below Z λk hk e=>e hk
end
theorem ar0{c:CfM}{fold:Bool}{wss Z:Lb}{q m S Kk:Nat}{C H I D N V:Wa}{P n0 n1 n2 n3 n4 n5 Bb Bu Bd Q QB Gf GB Ob OB:Nat}{tv:Vk}{tl:List Tk}{vs:List TVw}{sa ka:Option Addr}{sc kn kc:Nat}
  (hF:Hj q m fold wss H) (hr:An fold wss=G) (s:c.scan=scF fold wss c.S) (U:OkC c) (hq:q=C.heap.size) (a2:La C H) (v:La H D) (B:La D I) (J:La I N)
  (hk:CN (λk=>I.heap.size<=k) Kk ka kn kc (T O 0 0) c.ans [] 0 N) (hs:BY (λk=>D.heap.size<=k) S sa (lc Z) sc vs Z c.br 0 I) (hn:lc Z<=1000000) (h:GO c m S Kk N P n0 n1 n2 n3 n4 n5 Bb Bu Bd Q QB Gf GB Ob OB tv tl V) :
  ∃A o,A.P=P/\A.Kk=Kk/\AI A c o (Bn c Z) V/\∀k,k<C.heap.size->o k=1000000:=by
 have s1:=v.size;have s2:=B.size;have s3:=J.size;have s0:=a2.size;obtain⟨o0,X⟩:∃o0:Nat->Nat,o0=λk=>if k<C.heap.size then 1000000 else if k<H.heap.size then 0 else if k<I.heap.size then 2 else if k<N.heap.size then 3 else 1000000:=⟨_,rfl⟩
 have a1:CN (λk=>o0 k=3) Kk ka kn kc (T O 0 0) c.ans [] 0 N:=by refine hk.wide (Y:=λk=>o0 k=3) λk hk hx=>?_;rw[X];dsimp only;rw[Lc om,Lc om,Lc om,Lq hk]
 have j:BY (λk=>o0 k=2) S sa (lc Z) sc vs Z c.br 0 N:=by refine(hs.wide (Y:=λk=>o0 k=2) λk hk hx=>?_).keep (Y:=λ_=>False) (Chg.of_same J) λ_ _ _ h=>h;rw[X];dsimp only;rw[Lc om,Lc om,Lq hk]
 have e:Fk q H N:=EF.of_below (v.trans ((B.trans (J.mono s2)).mono s1));obtain⟨g,cap,hP⟩:=ao8 h (o0:=o0) (λk hk=>by rw[X];dsimp only;rw[Lc om,Lc om,Lc om,Lc om]) j hn a1 (λV hV=>ap3 hF hr s U.S.2 V hV) e (λk a6 hk=>by rw[X];dsimp only;rw[Lc om,Lq hk]) U.R.1 U.Q.1 U.O.1;refine⟨_,_,rfl,rfl,hP,λk hk=>?_⟩;unfold Cp;rw[Lq om,X];exact Lq hk
theorem apT(c:CfM)(fold:Bool)(a:Option Addr)(U ca:Nat)(b:Option Addr)(n cb:Nat)(d:Option Addr)(m cd:Nat)(wss Y:Lb)(w:Wa)(hA:Wds w a U wss)(hR:∃vs,aph w b n vs Y)(hD:Sl1 i6 w d m c.ans)
  (hr:An fold wss=G) (ao:U<=1000000) (hM:∀x∈wss,lc x<=1000000) (hT:(Ad fold wss).length<=1000000) (hL:Au wss=(c.L:Int)) (I:c.L<=32) (a7:c.scan=scF fold wss c.S) (a6:OkC c) (ae:Ce c.W c.K c.R c.Q c.O c.S c.F=G) (hn:n<=1000000) (hl:∀x∈Y,lc x<=1000000) (hm:m<=1000000) :
  Calls ZP 24 #[i8 (AM fold a U ca),i8 (Ee c.W c.K c.R c.Q c.O c.S c.F),i6 c.br,T b n cb,T d m cd] w λe w'=>∃A o,e=ra (L (E ⟨A.P,0,O⟩))/\AI A c o (Bn c Y) w'/\La w w'/\∀k,k<w.heap.size->o k=1000000:=by
 obtain⟨W,hW⟩:∃W,W=(w.alloc (i7 (AM fold a U ca) 24)).alloc (i7 (Ee c.W c.K c.R c.Q c.O c.S c.F) 26):=⟨_,rfl⟩;have hO:Bx w.heap.size [i7 (AM fold a U ca) 24,i7 (Ee c.W c.K c.R c.Q c.O c.S c.F) 26] W:=by rw[hW];exact((Bx.nil _ w).snoc _ rfl).snoc _ sm
 have X:La w W:=by rw[hW];exact(AL w _).alloc (AL w _).size _
 obtain⟨S0,ag⟩:∃x,(w.alloc (i7 (AM fold a U ca) 24)).heap.size=x:=⟨_,rfl⟩;have a1:S0=w.heap.size+1:=by rw[<-ag];simp
 have HC:Hid (∀V,La W V->V.cell? ⟨w.heap.size,0,O⟩=E (i6 fold)/\V.cell? ⟨w.heap.size,1,O⟩=E (T a U ca)/\V.cell? ⟨w.heap.size+1,0,O⟩=E (R K c.W)/\V.cell? ⟨w.heap.size+1,1,O⟩=E (R K c.K)/\V.cell? ⟨w.heap.size+1,2,O⟩=E (R K c.R)/\V.cell? ⟨w.heap.size+1,3,O⟩=E (R K c.Q)/\V.cell? ⟨w.heap.size+1,4,O⟩=E (R K c.O)/\V.cell? ⟨w.heap.size+1,5,O⟩=E (R K c.S)/\V.cell? ⟨w.heap.size+1,6,O⟩=E (R K c.F)):=λV J=>by have h:=hO.below J;exact⟨h.cell (i:=0) rfl rfl,h.cell (i:=0) rfl rfl,h.cell (i:=1) rfl rfl,h.cell (i:=1) rfl rfl,h.cell (i:=1) rfl rfl,h.cell (i:=1) rfl rfl,h.cell (i:=1) rfl rfl,h.cell (i:=1) rfl rfl,h.cell (i:=1) rfl rfl⟩
 have k1:Hid (Calls ZP 52 #[i8 (AM fold a U ca)] W λe w'=>∃B,e=ra (ta #[L (E ⟨B,0,O⟩),R K 0])/\Hj W.heap.size B fold wss w'/\La W w'):=adn fold a U ca wss W (hA.below X) ao hM hT hr;have k2:Hid (∀V,La W V->Calls ZP 53 #[T d m cd] V λe w'=>∃KB a' c',e=ra (L (E ⟨KB,0,O⟩))/\CN (λk=>V.heap.size<=k) KB a' m c' (T O 0 0) c.ans [] 0 w'/\La V w'):=λV J=>ajG d m cd c.ans V ((hD.below X).below J) hm;obtain⟨al,Z⟩:=hR;have aa:lc Y=n:=by rw[<-Z.2.1];exact Z.1.1
 have k3:Hid (∀V,La W V->Calls ZP 55 #[i6 c.br,T b n cb] V λe w'=>∃S a' c' am,e=ra (L (E ⟨S,0,O⟩))/\BY (λk=>V.heap.size<=k) S a' (lc Y) c' am Y c.br 0 w'/\La V w'):=λV J=>
  aiT b n cb al Y c.br V ⟨(Z.1.below X).below J,Z.2.1,λi v xs h1 h2=>((Z.2.2 i v xs h1 h2).below X).below J⟩ hn hl
 have HB:=AA X;have HR:=AA hr;have HL:=AA hL;have HK:=AA I;have HS:=AA a7;have ar:=AA a6;have HF:=AA ae;have HN:Hid (lc Y<=1000000):=by rw[Hid,aa];exact hn
 have av:=AA a1;rw[<-a1]at HC;obtain⟨q0,q1,q2,q3,q4,q5,q6,q7,q8⟩:=HC.out W (AH _ _);clear hA Z hD hr hM hT hL I a7 a6 ae hl hO X aa a1;go_enter func24,ntmps24;go_upto_region 1 with fail
 rw[<-hW];clear hW ag
 go_wp2_with fail
 refine k1.out.mono ?_;rintro e w1 ⟨B,rfl,ai,af⟩;have X1:=AA af;have ak:=AA ai;clear q0 q1 q2 q3 q4 q5 q6 q7 q8 af ai k1;go_upto_region 4 with fail
 obtain⟨D,hD⟩:∃D,D=w1.drew:=⟨_,rfl⟩;have N:Hid (La w1 D):=by rw[Hid,hD];exact AN w1 1
 have XD:=AA (X1.out.trans (N.out.mono X1.out.size));have K3:=AA (k3.out D XD.out);clear k3;refine Ve ?_;refine Vd (S:=λV=>La W V) kr (by rw[<-hD];exact XD.out) (λhHeld=>?_);rw[<-hD];clear hD;refine tkB 0 HC.out ?_;refine tkB 1 HC.out ?_;refine tkB 2 HC.out ?_;refine tkB 3 HC.out ?_;refine tkA 5 ?_;refine rdy 4 (λKB H=>?_);go_simp
 go_at_call 55;refine K3.out.mono ?_;rintro e w2 ⟨S,sa,sc,vs,rfl,a8,j⟩
 have a2:=AA j;have ap:=AA a8;have X2:=AA (XD.out.trans (j.mono XD.out.size));clear j a8 K3;refine H.out _ _ X2.out (λh7=>?_);clear H KB
 try simp only[pq]
 have K2:=AA (k2.out w2 X2.out);clear k2;refine rdy 6 (λKB H=>?_);go_simp
 go_at_call 53;refine K2.out.mono ?_;rintro e w3 ⟨Kk,ka,kc,rfl,ac,s⟩
 have aj:=AA s;have au:=AA ac;have X3:=AA (X2.out.trans (s.mono X2.out.size));clear s ac K2;refine H.out _ _ X3.out (λh8=>?_);clear H KB
 try simp only[pq]
 have ab:Fk W.heap.size w1 w3:=EF.of_below (N.out.trans ((a2.out.trans (aj.out.mono a2.out.size)).mono N.out.size));have K4:=AA (aiL c B S Kk W.heap.size w1 w3 HF.out HK.out (λV J=>ap2 ak.out HL.out V J) ab);clear ab;refine rdy 7 (λKB H=>?_);go_simp
 go_at_call 54;refine K4.out.mono ?_;rintro e w4 ⟨P,n0,n1,n2,n3,n4,n5,Bb,Bu,Bd,Q,QB,Gf,GB,Ob,OB,tv,tl,rfl,C⟩
 have aq:=AA C;have X4:=AA (X3.out.trans (C.below.mono X3.out.size));clear C;refine H.out _ _ X4.out (λh9=>?_);clear H KB
 try simp only[pq]
 refine tkA 8 ?_;refine tkA 9 ?_;refine tkA 10 ?_;refine tkA 11 ?_;refine tkA 12 ?_;refine Vg kr ?_ _;refine At ?_;go_wp2;go_ret;obtain⟨A,o,e1,e2,e3,e4⟩:=ar0 ak.out HR.out HS.out ar.out rfl X1.out N.out a2.out aj.out au.out ap.out HN.out aq.out;refine⟨A,o,?_,e3,HB.out.trans (X4.out.mono HB.out.size),λk hk=>e4 k (Af hk HB.out.size)⟩;rw[e1];rfl
def PD(c:CfM)(s:PlM)(d n:Int):PlM:=if d=0 then Fi c s n else if d=1 then PA c s n else LN s
def PM(c:CfM)(s:PlM)(d n:Int):Vk:=ta (if d=0 then(match EZ c s n with|none=>#[R K 0,i6 M]|some t=>#[R K (t:Int),i6 G]) else if d=1 then #[R K n,i6 (Ou c s n)] else #[R K 0,i6 (!(s.cancelled || Fd s))])
theorem aqj{A:PAd}{c:CfM}{s:PlM}{o:Nat->Nat}(w:Wa)(h:AI A c o s w)(U:OkC c)(ok:OkM c s)(d n:Int) :Calls ZP 31 #[L (E ⟨A.P,0,O⟩),i8 #[R K d,R K n]] w λe w'=>e=ra (PM c s d n)/\AE A c o (PD c s d n) w w':=by
 obtain⟨W,hW⟩:∃W,W=w.alloc (i7 #[R K d,R K n] 59):=⟨_,rfl⟩;have N:La w W:=by rw[hW];exact AL _ _
 have hx:W.heap[w.heap.size]?=E (i7 #[R K d,R K n] 59 (0,0)):=by rw[hW];exact AT _ _
 have X:W.cell? ⟨w.heap.size,0,O⟩=E (R K d):=by simp[cell?,hx]
 have j:W.cell? ⟨w.heap.size,1,O⟩=E (R K n):=by simp[cell?,hx]
 have hG:=h.g.bel N;obtain⟨P,hP⟩:∃P,A.P=P:=⟨_,rfl⟩;unfold PM PD;have C:=AA (ahi w W hG U ok n);have HS:Hid (∀D,La W D->Calls ZP 44 #[L (E ⟨A.P,0,O⟩),R K n] D λe w'=>e=ra (i6 (Ou c s n))/\AE A c o (PA c s n) w w'/\w'.cell? ⟨w.heap.size,1,O⟩=E (R K n)):=λD I=>by have a1:La w D:=N.trans (I.mono N.size);have hl:=(AD.1 hx).1;have a6:=h.far (Y:=λ_=>False) (Chg.of_same a1) λ_ _ e=>e.elim;refine(aq2 D D a6.g U ok n).mono ?_;rintro e w' ⟨h1,h2⟩;refine⟨h1,AE.comp (λ_ h=>h) ⟨.of_same a1,λ_ _ h=>h⟩ h2,?_⟩;obtain⟨o1,_,_,h3⟩:=h2;have e1:w'.heap[w.heap.size]?=W.heap[w.heap.size]?:=(h3.c.block _ (Af hl I.size) λe=>e.2 (h.out _ (AC _))).trans (I.block _ hl);simp[cell?,e1,hx]
 have HN:=AA (apX w W hG U ok.wl);rw[hP]at C HS HN⊢;clear h N hx hG U ok hP
 by_cases h0:d=0
 ·subst h0;simp only[if_true];clear HS HN
  cases hp:EZ c s n with
  |none=>
   rw[hp]at C;go_enter func31,ntmps31;go_upto_region 1 with fail
   rw[<-hW];clear hW
   go_wp2_with fail
   refine C.out.mono ?_;rintro e w1 ⟨rfl,Z⟩;have B:=AA Z;clear Z X j;go_wp2;go_ret2;exact⟨rfl,B.out⟩
  |some t=>
   rw[hp]at C;go_enter func31,ntmps31;go_upto_region 1 with fail
   rw[<-hW];clear hW
   go_wp2_with fail
   refine C.out.mono ?_;rintro e w1 ⟨rfl,Z⟩;have B:=AA Z;clear Z X j;go_wp2;go_ret2;exact⟨rfl,B.out⟩
 ·rw[Lc h0,Lc h0];have e0:(d==0)=M:=by simp[h0]
  have a7:decide (d=0)=M:=by simp[h0]
  by_cases h1:d=1
  ·subst h1;simp only[if_true];clear C HN e0 a7;obtain⟨b,hb⟩:∃b,Ou c s n=b:=⟨_,rfl⟩;rw[hb]at HS⊢;clear hb;go_enter func31,ntmps31;go_upto_region 1 with fail
   rw[<-hW];clear hW;go_upto_region 5 with fail
   obtain⟨D,I⟩:∃D,D=W.drew:=⟨_,rfl⟩;have H:La W D:=by rw[I];exact AN W 1
   have a2:D.cell? ⟨w.heap.size,1,O⟩=E (R K n):=(H.cell (p:=⟨w.heap.size,1,O⟩) (DO W _ j)).trans j;have a8:=AA (HS.out D H);clear HS X j H;refine Ve ?_;refine Vd (S:=λV=>V.cell? ⟨w.heap.size,1,O⟩=E (R K n)) kr (by rw[<-I];exact a2) (λhHeld=>?_);rw[<-I];clear I hHeld;refine tkW 0 (v:=?_) ?_ ?_;rotate_left
   ·intro V J;have X:V.cell? ⟨w.heap.size,1,O⟩=E (R K n):=J
    first|(go_simp;done)|(go_simp;with_reducible rfl)
   try simp only[pq]
   refine tkW 1 (v:=?_) ?_ ?_;rotate_left
   ·intro V J;have X:V.cell? ⟨w.heap.size,1,O⟩=E (R K n):=J
    first|(go_simp;done)|(go_simp;with_reducible rfl)
   try simp only[pq]
   refine tkW 2 (v:=?_) ?_ ?_;rotate_left
   ·intro V J;have X:V.cell? ⟨w.heap.size,1,O⟩=E (R K n):=J
    first|(go_simp;done)|(go_simp;with_reducible rfl)
   try simp only[pq]
   refine tkW 3 (v:=?_) ?_ ?_;rotate_left
   ·intro V J;have X:V.cell? ⟨w.heap.size,1,O⟩=E (R K n):=J
    first|(go_simp;done)|(go_simp;with_reducible rfl)
   try simp only[pq]
   refine tkW 4 (v:=?_) ?_ ?_;rotate_left
   ·intro V J;have X:V.cell? ⟨w.heap.size,1,O⟩=E (R K n):=J
    first|(go_simp;done)|(go_simp;with_reducible rfl)
   try simp only[pq]
   refine rdy 5 (λKB hK=>?_);go_simp
   go_at_call 44;refine a8.out.mono ?_;rintro e w1 ⟨rfl,Z,hq⟩
   have B:=AA Z;refine hK.out _ _ hq (λh5=>?_);clear hK KB Z hq
   try simp only[pq]
   refine tkA 6 ?_;refine tkA 7 ?_;refine Vg kr ?_ _;refine At ?_;go_wp2;go_ret2;exact⟨rfl,B.out⟩
  ·rw[Lc h1,Lc h1];have e1:(d==1)=M:=by simp[h1]
   have aa:decide (d=1)=M:=by simp[h1]
   clear C HS;obtain⟨b,hb⟩:∃b,(!(s.cancelled || Fd s))=b:=⟨_,rfl⟩;rw[hb]at HN⊢;clear hb;go_enter func31,ntmps31;go_upto_region 1 with fail
   rw[<-hW];clear hW
   go_wp2_with fail
   refine HN.out.mono ?_;rintro e w1 ⟨rfl,Z⟩;have B:=AA Z;clear Z X j;go_wp2;go_ret2;exact⟨rfl,B.out⟩
section
variable {A B:PAd}{c d:CfM}{s s' t t':PlM}{o p:Nat->Nat}{F:Nat->Prop}{w w' w'':Wa}
theorem Two.mk{U V N:Wa}{b:Nat}(h1:AI A c o s U)(D:b<=U.heap.size)(I:∀k,k<b->o k=1000000)(X:La U V)(Z:La V N)(h3:AI B d p t N)(J:∀k,k<V.heap.size->p k=1000000):Two A B c d (λk=>k<b) s t N:=by
 have s1:=X.size;have s2:=Z.size;refine⟨o,p,(h1.far (Y:=λ_=>False) (.of_same (X.trans (Z.mono s1))) λ_ _ e=>e.elim),h3,λk hk=>⟨by omega,I k hk,J k om⟩,λk hk=>⟨λe=>?_,λe=>?_⟩⟩
 ·refine J k (Nat.lt_of_not_le λH=>?_);exact e.2 (h1.out k om)
 ·refine h1.out k (Nat.le_of_not_lt λH=>?_);exact e.2 (J k om)
theorem Two.calm(h:Two A B c d F s t w){f:FuncId}{args:Array Vk}{Ra:Ending->Wa->Prop}(k:∀o,AI A c o s w->Calls ZP f args w λe w'=>Ra e w'/\La w w') :Calls ZP f args w λe w'=>Ra e w'/\Two A B c d F s t w'/\La w w':=by have h0:=h;obtain⟨o,p,h1,h2,h3⟩:=h;refine(k o h1).mono ?_;rintro e w' ⟨Y,Z⟩;exact⟨Y,h0.same Z,Z⟩
theorem Two.pick(h:Two A B c d F s t w)(Z:OkC c)(ok:OkM c s)(z:Int) :Calls ZP 17 #[L (E ⟨A.P,0,O⟩),R K z] w λe w'=>e=ra (ta (match EZ c s z with|none=>#[R K 0,i6 M]|some t=>#[R K (t:Int),i6 G]))/\Two A B c d F (Fi c s z) t w'/\Chg (λk=>¬F k) w w':=h.call λo h1=>ahi w w h1.g Z ok z
theorem Two.step(h:Two A B c d F s t w)(Z:OkC c)(ok:OkM c s)(z:Int) :Calls ZP 44 #[L (E ⟨A.P,0,O⟩),R K z] w λe w'=>e=ra (i6 (Ou c s z))/\Two A B c d F (PA c s z) t w'/\Chg (λk=>¬F k) w w':=h.call λo h1=>aq2 w w h1.g Z ok z
theorem Two.cancel(h:Two A B c d F s t w)(Z:OkC c)(ok:OkM c s) :Calls ZP 21 #[L (E ⟨A.P,0,O⟩)] w λe w'=>e=ra (i6 (!(s.cancelled || Fd s)))/\Two A B c d F (LN s) t w'/\Chg (λk=>¬F k) w w':=h.call λo h1=>apX w w h1.g Z ok.wl
theorem Two.over(h:Two A B c d F s t w)(Z:OkC c)(ok:OkM c s) :Calls ZP 16 #[L (E ⟨A.P,0,O⟩)] w λe w'=>e=ra (i6 (Fd s))/\Two A B c d F s t w'/\La w w':=h.calm λo h1=>ahx w h1 Z ok.wl
theorem Two.status(h:Two A B c d F s t w)(Z:OkC c)(ok:OkM c s) :Calls ZP 37 #[L (E ⟨A.P,0,O⟩)] w λe w'=>e=ra (i8 #[.int .u8 (Ow c s).1,R K (Ow c s).2])/\Two A B c d F s t w'/\La w w':=h.calm λo h1=>aq9 w w h1.g Z ok.wl
theorem Two.took(h:Two A B c d F s t w)(ok:OkM c s) :Calls ZP 41 #[L (E ⟨A.P,0,O⟩)] w λe w'=>(∃v,e=ra v/\Ax w' w.heap.size v s.took)/\Two A B c d F s t w'/\La w w':=h.calm λo h1=>(aqr w w h1.g ok.tol2).mono λe w' ⟨v,h2,h3,h4⟩=>⟨⟨v,h2,h3⟩,h4⟩
theorem Two.enabled(h:Two A B c d F s t w)(Y:OkC c)(ok:OkM c s) :Calls ZP 29 #[L (E ⟨A.P,0,O⟩)] w λe w'=>(∃a X,e=ra (T a (II c s).length X)/\Sl1 (R K) w' a (II c s).length (enF c s (c.W+3)))/\Two A B c d F s t w'/\La w w':=
 h.calm λo h1=>(adu w h1 Y ok).mono λe w' ⟨v,h2,h3,h4⟩=>by
  obtain⟨a,X,rfl,_,V⟩:=Co (enc:=R K) h3;have Z:(enF c s (c.W+3)).length=(II c s).length:=by rw[ak5,BP]
  rw[Z]at h2 V;exact⟨⟨a,X,h2,V⟩,h4⟩
theorem Two.view(h:Two A B c d F s t w)(Y:OkC c)(ok:OkM c s)(X:EE c s) :Calls ZP 34 #[L (E ⟨A.P,0,O⟩)] w λe w'=>(∃v0 v3 v4 Z,e=ra (i8 (vwC v0 v3 v4 Z (Br c s)))/\VwS w' w.heap.size v0 v3 v4 Z (Br c s))/\Two A B c d F s t w'/\La w w':=h.calm λo h1=>(aqY w h1 Y ok X).mono λe w' ⟨v0,v3,v4,Z,h2,h3,h4⟩=>⟨⟨v0,v3,v4,Z,h2,h3⟩,h4⟩
end
structure TwW(A B:PAd)(F:Nat->Prop)(i j:Nat)(V:World):Prop where
 o:Two A B (cW false []) (cW true [false]) F (sP i) (sQ j) V
structure TwE(A B:PAd)(F:Nat->Prop)(j:Nat)(V:World):Prop where
 o:Two A B (cW false []) (cW true [false]) F (sP 200) (sE j) V
section
variable {A B:PAd}{F:Nat->Prop}{i j:Nat}{w w':Wa}
theorem TwW.same(h:TwW A B F i j w)(Z:La w w'):TwW A B F i j w':=⟨h.o.same Z⟩
theorem TwE.more{Gf:Nat->Prop}(h:TwE A B F j w)(Z:La w w')(Y:∀k,Gf k->F k∨w.heap.size<=k/\k<w'.heap.size):TwE A B Gf j w':=⟨h.o.more Z Y⟩
theorem TwE.same(h:TwE A B F j w)(Z:La w w'):TwE A B F j w':=⟨h.o.same Z⟩
def PU(e:Ending):Prop:=∃x y,e=ra (ta #[R K x,i6 y])
theorem Pd(c:CfM)(s:PlM)(z:Int):PU (ra (ta (match EZ c s z with|none=>#[R K 0,i6 M]|some t=>#[R K (t:Int),i6 G]))):=by cases EZ c s z<;>exact⟨_,_,rfl⟩
theorem TwW.pickA(h:TwW A B F i j w)(Z:i<300):Calls ZP 17 #[L (E ⟨A.P,0,O⟩),R K (i:Int)] w λe w'=>PU e/\TwW A B F (i+1) j w'/\Chg (λk=>¬F k) w w':=by refine(h.o.pick Ov (okW (PG i) om) i).mono ?_;rintro e w' ⟨rfl,h1,h2⟩;exact⟨Pd _ _ _,⟨by rw[ard];exact h1⟩,h2⟩
theorem TwW.pickB(h:TwW A B F i j w)(Z:j<300):Calls ZP 17 #[L (E ⟨B.P,0,O⟩),R K (j:Int)] w λe w'=>PU e/\TwW A B F i (j+1) w'/\Chg (λk=>¬F k) w w':=by refine(h.o.symm.pick Ov (okW (PC j) om) j).mono ?_;rintro e w' ⟨rfl,h1,h2⟩;exact⟨Pd _ _ _,⟨by rw[arb];exact h1.symm⟩,h2⟩
theorem TwE.pickB(h:TwE A B F j w)(Z:j<300):Calls ZP 17 #[L (E ⟨B.P,0,O⟩),R K 0] w λe w'=>PU e/\TwE A B F (j+1) w'/\Chg (λk=>¬F k) w w':=by refine(h.o.symm.pick Ov (okW (PL j) om) 0).mono ?_;rintro e w' ⟨rfl,h1,h2⟩;exact⟨Pd _ _ _,⟨by rw[ar7];exact h1.symm⟩,h2⟩
theorem TwW.viewB(h:TwW A B F i j w)(s:j<300):Calls ZP 34 #[L (E ⟨B.P,0,O⟩)] w λe w'=>(∃v0 v3 v4 X V Y C D H I J N U Z,e=ra (i8 #[v0,R K I,R K J,v3,v4,R K N,T X V Y,R K U,i6 C,i6 D,i6 H,R K Z])/\V<=2)/\TwW A B F i j w'/\La w w':=by refine(h.o.symm.view Ov (okW (PC j) om) (PC j).p).mono ?_;rintro e w' ⟨⟨v0,v3,v4,v,rfl,h0⟩,h1,h2⟩;obtain⟨X,Y,rfl,_,_⟩:=Co h0.r6;refine⟨⟨v0,v3,v4,X,_,Y,_,_,_,_,_,_,_,_,rfl,?_⟩,⟨h1.symm⟩,h2⟩;exact AS (PN (sQ j).us (sQ j).us.length) (by rw[(PC j).p.b.ul];decide)
theorem TwW.statB(h:TwW A B F 200 200 w):Calls ZP 37 #[L (E ⟨B.P,0,O⟩)] w λe w'=>e=ra (i8 #[.int .u8 1,R K 0])/\TwW A B F 200 200 w'/\La w w':=by
 refine(h.o.symm.status Ov (okW (PC 200) om)).mono ?_;rintro e w' ⟨rfl,h1,h2⟩;have Z:Ow (cW G [M]) (sQ 200)=(1,0):=by unfold Ow;rw[PK.1];rfl
 exact⟨by rw[Z],⟨h1.symm⟩,h2⟩
theorem TwW.overB(h:TwW A B F 200 200 w):Calls ZP 16 #[L (E ⟨B.P,0,O⟩)] w λe w'=>e=ra (i6 M)/\TwW A B F 200 200 w'/\La w w':=by refine(h.o.symm.over Ov (okW (PC 200) om)).mono ?_;rintro e w' ⟨rfl,h1,h2⟩;exact⟨by rw[PK.1],⟨h1.symm⟩,h2⟩
theorem TwW.tookB(h:TwW A B F 200 200 w):Calls ZP 41 #[L (E ⟨B.P,0,O⟩)] w λe w'=>(∃a Z,e=ra (T a 0 Z))/\TwW A B F 200 200 w'/\La w w':=by refine(h.o.symm.took (okW (PC 200) om)).mono ?_;rintro e w' ⟨⟨v,rfl,h0⟩,h1,h2⟩;rw[PK.2.1]at h0;obtain⟨a,Z,rfl,_,_⟩:=Gy h0;exact⟨⟨a,Z,rfl⟩,⟨h1.symm⟩,h2⟩
theorem TwW.enB(h:TwW A B F 200 200 w):Calls ZP 29 #[L (E ⟨B.P,0,O⟩)] w λe w'=>(∃a Z,e=ra (T a 1 Z))/\TwW A B F 200 200 w'/\La w w':=by refine(h.o.symm.enabled Ov (okW (PC 200) om)).mono ?_;rintro e w' ⟨⟨a,Z,rfl,_⟩,h1,h2⟩;exact⟨⟨a,Z,by rw[PK.2.2.1]⟩,⟨h1.symm⟩,h2⟩
theorem TwW.canB(h:TwW A B F 200 200 w):Calls ZP 21 #[L (E ⟨B.P,0,O⟩)] w λe w'=>e=ra (i6 G)/\TwE A B F 0 w'/\Chg (λk=>¬F k) w w':=by refine(h.o.symm.cancel Ov (okW (PC 200) om)).mono ?_;rintro e w' ⟨rfl,h1,h2⟩;exact⟨by rw[PK.1,PK.2.2.2];rfl,⟨h1.symm⟩,h2⟩
theorem TwE.canB(h:TwE A B F 0 w):Calls ZP 21 #[L (E ⟨B.P,0,O⟩)] w λe w'=>e=ra (i6 M)/\TwE A B F 0 w'/\Chg (λk=>¬F k) w w':=by
 have Z:(sE 0).cancelled=G:=by decide+kernel
 refine(h.o.symm.cancel Ov (okW (PL 0) om)).mono ?_;rintro e w' ⟨rfl,h1,h2⟩;have Y:LN (sE 0)=sE 0:=by unfold LN;rw[Z];rfl
 rw[Y]at h1;exact⟨by rw[Z];rfl,⟨h1.symm⟩,h2⟩
theorem TwE.viewB(h:TwE A B F 60 w):Calls ZP 34 #[L (E ⟨B.P,0,O⟩)] w λe w'=>(∃v0 v3 v4 Z,e=ra (i8 (vwC v0 v3 v4 Z (vwE G)))/\VwS w' w.heap.size v0 v3 v4 Z (vwE G))/\TwE A B F 60 w'/\La w w':=by refine(h.o.symm.view Ov (okW (PL 60) om) (PL 60).p).mono ?_;rintro e w' ⟨h0,h1,h2⟩;rw[ark]at h0;exact⟨h0,⟨h1.symm⟩,h2⟩
theorem TwE.statB(h:TwE A B F 60 w):Calls ZP 37 #[L (E ⟨B.P,0,O⟩)] w λe w'=>e=ra (i8 #[.int .u8 3,R K 0])/\TwE A B F 60 w'/\La w w':=by
 refine(h.o.symm.status Ov (okW (PL 60) om)).mono ?_;rintro e w' ⟨rfl,h1,h2⟩;have Z:Ow (cW G [M]) (sE 60)=(3,0):=by unfold Ow;rw[PZ.1,PZ.2.1];rfl
 exact⟨by rw[Z],⟨h1.symm⟩,h2⟩
theorem TwE.enB(h:TwE A B F 60 w):Calls ZP 29 #[L (E ⟨B.P,0,O⟩)] w λe w'=>(∃a Z,e=ra (T a 0 Z))/\TwE A B F 60 w'/\La w w':=by refine(h.o.symm.enabled Ov (okW (PL 60) om)).mono ?_;rintro e w' ⟨⟨a,Z,rfl,_⟩,h1,h2⟩;exact⟨⟨a,Z,by rw[PZ.2.2]⟩,⟨h1.symm⟩,h2⟩
theorem TwE.tookA(h:TwE A B F 60 w):Calls ZP 41 #[L (E ⟨A.P,0,O⟩)] w λe w'=>(∃a Z,e=ra (T a 3 Z)/\Hts w' a 3 [(4,1),(4,0),(5,2)])/\TwE A B F 60 w'/\La w w':=by refine(h.o.took (okW (PG 200) om)).mono ?_;rintro e w' ⟨⟨v,rfl,h0⟩,h1,h2⟩;rw[PH.2.1]at h0;obtain⟨a,Z,rfl,_,Y,_⟩:=Gy h0;exact⟨⟨a,Z,rfl,Y,by unfold I64;decide⟩,⟨h1⟩,h2⟩
theorem TwE.statA(h:TwE A B F 60 w):Calls ZP 37 #[L (E ⟨A.P,0,O⟩)] w λe w'=>e=ra (i8 #[.int .u8 2,R K 0])/\TwE A B F 60 w'/\La w w':=by
 refine(h.o.status Ov (okW (PG 200) om)).mono ?_;rintro e w' ⟨rfl,h1,h2⟩;have Z:Ow (cW M []) (sP 200)=(2,0):=by unfold Ow;rw[PH.1,PH.2.2.1];rfl
 exact⟨by rw[Z],⟨h1⟩,h2⟩
theorem TwE.overA(h:TwE A B F 60 w):Calls ZP 16 #[L (E ⟨A.P,0,O⟩)] w λe w'=>e=ra (i6 G)/\TwE A B F 60 w'/\La w w':=by refine(h.o.over Ov (okW (PG 200) om)).mono ?_;rintro e w' ⟨rfl,h1,h2⟩;exact⟨by rw[PH.1],⟨h1⟩,h2⟩
theorem TwE.canA(h:TwE A B F 60 w):Calls ZP 21 #[L (E ⟨A.P,0,O⟩)] w λe w'=>e=ra (i6 M)/\TwE A B F 60 w'/\Chg (λk=>¬F k) w w':=by
 refine(h.o.cancel Ov (okW (PG 200) om)).mono ?_;rintro e w' ⟨rfl,h1,h2⟩;have Z:LN (sP 200)=sP 200:=by unfold LN;rw[PH.1,Bool.or_true];rfl
 rw[Z]at h1;exact⟨by rw[PH.1,Bool.or_true];rfl,⟨h1⟩,h2⟩
theorem TwE.stepA(h:TwE A B F 60 w):Calls ZP 44 #[L (E ⟨A.P,0,O⟩),R K 0] w λe w'=>e=ra (i6 M)/\TwE A B F 60 w'/\Chg (λk=>¬F k) w w':=by
 have Z:Ou (cW M []) (sP 200) 0=M:=by unfold Ou;rw[show(0:Int).toNat=0 from rfl,PH.2.2.2,Bool.and_false]
 refine(h.o.step Ov (okW (PG 200) om) 0).mono ?_;rintro e w' ⟨rfl,h1,h2⟩;have e2:PA (cW M []) (sP 200) 0=sP 200:=by unfold PA;rw[Z];rfl
 rw[e2]at h1;exact⟨by rw[Z],⟨h1⟩,h2⟩
theorem TwE.viewA(h:TwE A B F 60 w):Calls ZP 34 #[L (E ⟨A.P,0,O⟩)] w λe w'=>(∃v0 v3 v4 Z,e=ra (i8 (vwC v0 v3 v4 Z (vwE M)))/\VwS w' w.heap.size v0 v3 v4 Z (vwE M))/\TwE A B F 60 w'/\La w w':=by refine(h.o.view Ov (okW (PG 200) om) (PG 200).p).mono ?_;rintro e w' ⟨h0,h1,h2⟩;rw[arj]at h0;exact⟨h0,⟨h1⟩,h2⟩
end
theorem PW(w:Wa):Calls ZP 60 #[] w λe w'=>∃a,e=ra (i8 (AM M (E a) 3 3))/\Wds w' (E a) 3 heW/\La w w':=by
 have kc:=aql;go_enter func60,ntmps60;go_wp2;obtain⟨H,V⟩:∃H,H=w.alloc (i7 #[i6 M,T (E ⟨w.heap.size+1+1+1+1,0,O⟩) 3 3] 24):=⟨_,rfl⟩;rw[<-V];have j:H.heap.size=w.heap.size+1:=by rw[V];simp
 have n1:H.heap[w.heap.size]?=E (i7 #[i6 M,T (E ⟨w.heap.size+1+1+1+1,0,O⟩) 3 3] 24 (0,0)):=by rw[V];exact AT _ _
 have B1:La w H:=by rw[V];exact AL _ _
 clear V;obtain⟨I,X⟩:∃I,I=H.alloc (i7 #[.int .u8 104,.int .u8 101] 5 (2,3)):=⟨_,rfl⟩;rw[<-X];have s:I.heap.size=w.heap.size+1+1:=by rw[X];simp[j]
 have y1:Bys I (E ⟨w.heap.size+1,0,O⟩) 2 [104,101]:=by rw[X];exact PO [104,101] sm _ _ j
 have B2:La H I:=by rw[X];exact AL _ _
 clear X;obtain⟨J,Y⟩:∃J,J=I.alloc (i7 #[.int .u8 115,.int .u8 104,.int .u8 101] 5 (3,4)):=⟨_,rfl⟩;rw[<-Y];have z3:J.heap.size=w.heap.size+1+1+1:=by rw[Y];simp[s]
 have y2:Bys J (E ⟨w.heap.size+1+1,0,O⟩) 3 [115,104,101]:=by rw[Y];exact PO [115,104,101] sm _ _ s
 have A:La I J:=by rw[Y];exact AL _ _
 clear Y;obtain⟨N,Z⟩:∃N,N=J.alloc (i7 #[.int .u8 104,.int .u8 101,.int .u8 114] 5 (3,4)):=⟨_,rfl⟩;rw[<-Z];have z4:N.heap.size=w.heap.size+1+1+1+1:=by rw[Z];simp[z3]
 have y3:Bys N (E ⟨w.heap.size+1+1+1,0,O⟩) 3 [104,101,114]:=by rw[Z];exact PO [104,101,114] sm _ _ z3
 have B:La J N:=by rw[Z];exact AL _ _
 clear Z;obtain⟨C,U⟩:∃C,C=N.alloc (i7 #[T (E ⟨w.heap.size+1,0,O⟩) 2 2,T (E ⟨w.heap.size+1+1,0,O⟩) 3 3,T (E ⟨w.heap.size+1+1+1,0,O⟩) 3 3] 32):=⟨_,rfl⟩;rw[<-U];have y4:Sl1 (λv:Option Addr×Nat×Nat=>T v.1 v.2.1 v.2.2) C (E ⟨w.heap.size+1+1+1+1,0,O⟩) 3 [(E ⟨w.heap.size+1,0,O⟩,2,2),(E ⟨w.heap.size+1+1,0,O⟩,3,3),(E ⟨w.heap.size+1+1+1,0,O⟩,3,3)]:=by rw[U];exact Sl1.lay (α:=Option Addr×Nat×Nat) _ N [(E ⟨w.heap.size+1,0,O⟩,2,2),(E ⟨w.heap.size+1+1,0,O⟩,3,3),(E ⟨w.heap.size+1+1+1,0,O⟩,3,3)] _ _ z4
 have D:La N C:=by rw[U];exact AL _ _
 clear U;have n5:C.heap[w.heap.size]?=_:=(D.block _ om).trans ((B.block _ om).trans ((A.block _ om).trans ((B2.block _ om).trans n1)));refine Vi (results_cell_row rfl _ _ w.heap.size _ _ _ _ rfl n5 underlying24 rfl kr) rfl ⟨_,rfl,?_,?_⟩
 ·exact arl y4 (((y1.below A).below B).below D) ((y2.below B).below D) (y3.below D) (AC _) (AC _) (AC _)
 ·exact B1.trans ((B2.trans ((A.trans ((B.trans (D.mono om)).mono om)).mono om)).mono om)
theorem aqT(w:Wa):Calls ZP 54 #[L O,i8 (Ee 0 0 0 0 0 0 0),L O,L O] w λe w'=>e=ra (ta #[L O,R K 2])/\La w w':=by have Z:=AA (AL w (i7 (Ee 0 0 0 0 0 0 0) 26));go_enter func54,ntmps54;go_wp2;go_ret2;exact⟨rfl,Z.out⟩
theorem aqp(m:Nat)(w:Wa):Calls ZP 54 #[L (E ⟨m,0,O⟩),i8 (Ee 0 0 0 0 0 0 0),L O,L O] w λe w'=>e=ra (ta #[L O,R K 270])/\La w w':=by
 obtain⟨W,hW⟩:∃W,W=w.alloc (i7 (Ee 0 0 0 0 0 0 0) 26):=⟨_,rfl⟩;have X:=AA (AL w (i7 (Ee 0 0 0 0 0 0 0) 26));rw[<-hW]at X;have Z:W.heap[w.heap.size]?=E (i7 (Ee 0 0 0 0 0 0 0) 26 (0,0)):=by rw[hW];exact AT _ _
 have A:W.cell? ⟨w.heap.size,0,O⟩=E (R K 0):=by simp[cell?,Z]
 have B:W.cell? ⟨w.heap.size,1,O⟩=E (R K 0):=by simp[cell?,Z]
 have C:W.cell? ⟨w.heap.size,2,O⟩=E (R K 0):=by simp[cell?,Z]
 have D:W.cell? ⟨w.heap.size,3,O⟩=E (R K 0):=by simp[cell?,Z]
 have H:W.cell? ⟨w.heap.size,4,O⟩=E (R K 0):=by simp[cell?,Z]
 have I:W.cell? ⟨w.heap.size,5,O⟩=E (R K 0):=by simp[cell?,Z]
 have J:W.cell? ⟨w.heap.size,6,O⟩=E (R K 0):=by simp[cell?,Z]
 have U:=NG 0 0 0 0 0 0 0 W;have N:Ce 0 0 0 0 0 0 0=M:=by decide
 rw[N]at U;have V:=AA U;clear U N Z;go_enter func54,ntmps54;go_upto_region 1 with fail
 rw[<-hW];clear hW
 go_wp2_with fail
 refine V.out.mono ?_;rintro e s ⟨rfl,Y⟩;have v:=AA (X.out.trans (Y.mono X.out.size));clear Y A B C D H I J;go_wp2;go_ret2;exact⟨rfl,v.out⟩
theorem aq7(w:Wa):Calls ZP 29 #[L O] w λe w'=>e=ra (T O 0 0)/\La w w':=by have Z:=AA (AH w.heap.size w);go_enter func29,ntmps29;go_wp2;go_ret;exact⟨rfl,Z.out⟩
theorem aqu(w:Wa):Calls ZP 16 #[L O] w λe w'=>e=ra (i6 M)/\La w w':=by have Z:=AA (AH w.heap.size w);go_enter func16,ntmps16;go_wp2;go_ret;exact⟨rfl,Z.out⟩
theorem aqt(n:Int)(w:Wa):Calls ZP 17 #[L O,R K n] w λe w'=>e=ra (ta #[R K 0,i6 M])/\La w w':=by
 have X:=AA (aq7 w);go_enter func17,ntmps17
 go_wp2_with (first|(go_at_call 29;refine X.out.mono ?_;rintro e U ⟨rfl,Z⟩;have Y:=AA Z;clear Z)|(go_at_call 43;refine(acE n O 0 0 [] _ ⟨rfl,.inl rfl⟩ om).mono ?_;rintro e V ⟨rfl,rfl⟩))
 go_ret2;exact⟨rfl,Y.out⟩
theorem PV(w:Wa):Calls ZP 23 #[] w λe w'=>e=ra (i6 G)/\La w w':=by
 have kc:=aql;have cz:=AA (AH w.heap.size w);go_enter func23,ntmps23;go_upto_region 3 with fail
 obtain⟨A1,aK⟩:∃X,X=w.alloc (i7 #[R K 2,R K 3,R K 2,R K 1,R K 1,R K 2,R K 0] 26):=⟨_,rfl⟩;rw[<-aK];have z1:A1.heap.size=w.heap.size+1:=by rw[aK];simp
 have n1:A1.heap[w.heap.size]?=E (i7 #[R K 2,R K 3,R K 2,R K 1,R K 1,R K 2,R K 0] 26 (0,0)):=by rw[aK];exact AT _ _
 have B1:La w A1:=by rw[aK];exact AL _ _
 clear aK;obtain⟨A2,aJ⟩:∃X,X=A1.alloc (i7 #[.int .u8 117,.int .u8 115,.int .u8 104] 5 (3,4)):=⟨_,rfl⟩;rw[<-aJ];have z2:A2.heap.size=w.heap.size+1+1:=by rw[aJ];simp[z1]
 have y1:Bys A2 (E ⟨w.heap.size+1,0,O⟩) 3 [117,115,104]:=by rw[aJ];exact PO [117,115,104] sm _ _ z1
 have B2:La A1 A2:=by rw[aJ];exact AL _ _
 clear aJ;obtain⟨A3,aI⟩:∃X,X=A2.alloc (i7 #[.int .u8 101,.int .u8 114,.int .u8 115] 5 (3,4)):=⟨_,rfl⟩;rw[<-aI];have z3:A3.heap.size=w.heap.size+1+1+1:=by rw[aI];simp[z2]
 have y2:Bys A3 (E ⟨w.heap.size+1+1,0,O⟩) 3 [101,114,115]:=by rw[aI];exact PO [101,114,115] sm _ _ z2
 have B3:La A2 A3:=by rw[aI];exact AL _ _
 clear aI;obtain⟨J,aT⟩:∃X,X=A3.alloc (i7 #[T (E ⟨w.heap.size+1,0,O⟩) 3 3,T O 0 0,T (E ⟨w.heap.size+1+1,0,O⟩) 3 3] 32):=⟨_,rfl⟩;rw[<-aT];have y3:Sl1 (λv:Option Addr×Nat×Nat=>T v.1 v.2.1 v.2.2) J (E ⟨w.heap.size+1+1+1,0,O⟩) 3 [(E ⟨w.heap.size+1,0,O⟩,3,3),(O,0,0),(E ⟨w.heap.size+1+1,0,O⟩,3,3)]:=by rw[aT];exact Sl1.lay (α:=Option Addr×Nat×Nat) _ A3 [(E ⟨w.heap.size+1,0,O⟩,3,3),(O,0,0),(E ⟨w.heap.size+1+1,0,O⟩,3,3)] _ _ z3
 have B4:La A3 J:=by rw[aT];exact AL _ _
 clear aT;have bQ:=B3.trans (B4.mono B3.size);have aY:Hid (aph J (E ⟨w.heap.size+1+1+1,0,O⟩) 3 [(E ⟨w.heap.size+1,0,O⟩,3,3),(O,0,0),(E ⟨w.heap.size+1+1,0,O⟩,3,3)] rW):=by
  refine⟨y3,rfl,λi v xs hv hx=>?_⟩
  match i,hv,hx with
  |0,hv,hx=>cases hv;cases hx;exact y1.below bQ
  |1,hv,hx=>cases hv;cases hx;exact Bys.nil _ _
  |2,hv,hx=>cases hv;cases hx;exact y2.below B4
 have bR:La A1 J:=B2.trans (bQ.mono B2.size);have co:Hid (La w J):=B1.trans (bR.mono B1.size);have bL:Hid (J.heap[w.heap.size]?=E (i7 #[R K 2,R K 3,R K 2,R K 1,R K 1,R K 2,R K 0] 26 (0,0))):=(bR.block _ (AD.1 n1).1).trans n1;clear y1 y2 y3 B1 B2 B3 B4 bQ bR n1 z1 z2 z3;obtain⟨cb,bz⟩:∃x,w.heap.size=x:=⟨_,rfl⟩;obtain⟨rb,bY⟩:∃x,w.heap.size+1+1+1=x:=⟨_,rfl⟩;rw[bY]at aY⊢;rw[bz]at bL⊢;have cI:=AA bz;clear bY bz;have aP:Hid (∀V,La J V->V.cell? ⟨cb,0,O⟩=E (R K 2)/\V.cell? ⟨cb,1,O⟩=E (R K 3)/\V.cell? ⟨cb,2,O⟩=E (R K 2)/\V.cell? ⟨cb,3,O⟩=E (R K 1)/\V.cell? ⟨cb,4,O⟩=E (R K 1)/\V.cell? ⟨cb,5,O⟩=E (R K 2)/\V.cell? ⟨cb,6,O⟩=E (R K 0)):=λV N=>by have h:=(N.block _ (AD.1 bL.out).1).trans bL.out;exact⟨by simp[cell?,h],by simp[cell?,h],by simp[cell?,h],by simp[cell?,h],by simp[cell?,h],by simp[cell?,h],by simp[cell?,h]⟩
 have bv:∀V,La J V->∃vs,aph V (E ⟨rb,0,O⟩) 3 vs rW:=λV N=>⟨_,aY.out.1.below N,aY.out.2.1,λi v xs h1 h2=>(aY.out.2.2 i v xs h1 h2).below N⟩;have K1:Hid (∀V,La J V->∀a,Wds V (E a) 3 heW->Calls ZP 24 #[i8 (AM M (E a) 3 3),i8 #[R K 2,R K 3,R K 2,R K 1,R K 1,R K 2,R K 0],i6 M,T (E ⟨rb,0,O⟩) 3 3,T O 0 0] V λe w'=>∃A o,e=ra (L (E ⟨A.P,0,O⟩))/\AI A (cW M []) o (sP 0) w'/\La V w'/\∀k,k<V.heap.size->o k=1000000):=λV N a hw=>
  apT (cW M []) M (E a) 3 3 (E ⟨rb,0,O⟩) 3 3 O 0 0 heW rW V hw (bv V N) ⟨rfl,.inl rfl⟩ (by decide+kernel) (by decide) aqI aqJ (by decide+kernel) (by decide) rfl Ov (by decide) (by decide) (by decide) (by decide)
 have K2:Hid (∀V,La J V->∀a g,Wds V (E a) 3 heW->V.heap[g]?=E (i7 #[i6 M] 4 (0,0))->Calls ZP 24 #[i8 (AM M (E a) 3 3),i8 #[R K 2,R K 3,R K 2,R K 1,R K 1,R K 2,R K 0],i6 G,T (E ⟨rb,0,O⟩) 3 3,T (E ⟨g,0,O⟩) 1 1] V λe w'=>∃A o,e=ra (L (E ⟨A.P,0,O⟩))/\AI A (cW G [M]) o (sQ 0) w'/\La V w'/\∀k,k<V.heap.size->o k=1000000):=λV N a g hw hg=>
  apT (cW G [M]) M (E a) 3 3 (E ⟨rb,0,O⟩) 3 3 (E ⟨g,0,O⟩) 1 1 heW rW V hw (bv V N) ⟨rfl,.inr ⟨g,0,rfl,(AD.1 hg).1,λi x hx=>by
   match i,hx with
   |0,hx=>cases hx;simp[cell?,hg]⟩⟩ (by decide+kernel) (by decide) aqI aqJ (by decide+kernel) (by decide) rfl Ov (by decide) (by decide) (by decide) (by decide)
 clear bv;obtain⟨D,hD⟩:∃D,D=J.drew:=⟨_,rfl⟩;have aj:La J D:=by rw[hD];exact AN J 1
 refine Ve ?_;refine Vd (S:=La J) kr (by rw[<-hD];exact aj) (λhHeld=>?_);rw[<-hD];clear hD hHeld;refine tkB 1 aP.out ?_;refine tkB 2 aP.out ?_;refine tkB 5 aP.out ?_;refine tkB 6 aP.out ?_;refine apJ 7 (λv V=>∃g,v=T (E ⟨g,0,O⟩) 1 1/\V.heap[g]?=E (i7 #[i6 M] 4 (0,0))) ?_ ?_ (λF=>?_)
 ·rintro _ V V' ⟨g,rfl,h⟩ U;exact⟨g,rfl,(U.block _ (AD.1 h).1).trans h⟩
 ·intro f V N _ KB Z;go_simp;exact Z _ _ (N.alloc N.size _) ⟨_,rfl,AT _ _⟩ (AL _ _)
 refine Oo F 0 (λv V=>∃a,v=i8 (AM M (E a) 3 3)/\Wds V (E a) 3 heW) ?_ ?_
 ·rintro f (rfl|⟨vk,rfl⟩) V N-KB Z<;>(try simp only[pq]at Z⊢)<;>go_simp<;>(go_at_call 60;refine(PW V).mono ?_;rintro e V2 ⟨a,rfl,hw,Y⟩;exact Z _ _ (N.trans (Y.mono N.size)) ⟨a,rfl,hw⟩ Y)
 rintro _ u1 bG-⟨a,rfl,bW⟩
 try simp only[pq]
 refine Oo F 3 (λv V=>∃(A:PAd)(o:Nat->Nat),v=L (E ⟨A.P,0,O⟩)/\AI A (cW M []) o (sP 0) V/\J.heap.size<=V.heap.size/\∀k,k<J.heap.size->o k=1000000) ?_ ?_
 ·rintro f (rfl|⟨vk,rfl⟩) V N hu KB Z<;>(try simp only[pq]at Z⊢)<;>go_simp<;>(go_at_call 24;refine(K1.out V N a (bW.below hu)).mono ?_;rintro e V2 ⟨A,o,rfl,hp,Y,hz⟩;exact Z _ _ (N.trans (Y.mono N.size)) ⟨A,o,rfl,hp,AS N.size Y.size,λk hk=>hz k (Af hk N.size)⟩ Y)
 rintro _ u2 aS-⟨A,o,rfl,hp,bZ,hz⟩
 try simp only[pq]
 refine Oo F 4 (λv V=>∃a,v=i8 (AM M (E a) 3 3)/\Wds V (E a) 3 heW) ?_ ?_
 ·rintro f (rfl|⟨vk,rfl⟩) V N-KB Z<;>(try simp only[pq]at Z⊢)<;>go_simp<;>(go_at_call 60;refine(PW V).mono ?_;rintro e V2 ⟨a,rfl,hw,Y⟩;exact Z _ _ (N.trans (Y.mono N.size)) ⟨a,rfl,hw⟩ Y)
 rintro _ u3 aF aC ⟨a2,rfl,bV⟩
 try simp only[pq]
 refine apI F ?_;rintro _ u4 af aA-⟨g,rfl,hg⟩
 try simp only[pq]
 have b4:=aC.trans (aA.mono aC.size);have K3:=AA (K2.out u4 af a2 g (bV.below aA) hg);refine rdy 8 (λKB Z=>?_);go_simp
 go_at_call 24;refine K3.out.mono ?_;rintro e u5 ⟨B,p,rfl,hq,az,bT⟩
 have HT:Hid (TwW A B (λk=>k<J.heap.size) 0 0 u5):=⟨Two.mk hp bZ hz b4 az hq bT⟩;have aZ:Hid (La J u5):=af.trans (az.mono af.size);refine Z.out _ _ aZ.out (λh8=>?_);clear Z KB F K1 K2 K3 hp bZ hz b4 az hq bT aC aA bW bV hg bG aS aF af h8 aj
 try simp only[pq]
 refine tkA 9 ?_;refine tkA 10 ?_;refine Vg kr ?_ _;refine At ?_;go_upto_region 5 with(first|(go_at_call 60;refine(PW _).mono ?_;rintro e u6 ⟨a6,rfl,bU,ay⟩;have ci:=AA bU;have bP:=AA ay;clear bU ay)|(go_at_call 52;refine(adn M (E a6) 3 3 heW _ ci.out (by decide) aqI aqJ (by decide+kernel)).mono ?_;rintro e u7 ⟨MB,rfl,_,ax⟩;have bO:=AA ax;clear ax))
 go_upto_region 6 with(go_at_call 54;refine(aqp MB _).mono ?_;rintro e u8 ⟨rfl,ae⟩;have bN:=AA ae;clear ae)
 go_upto_region 7 with(go_at_call 54;refine(aqT _).mono ?_;rintro e u9 ⟨rfl,ak⟩;have bM:=AA ak;clear ak)
 have aN:=AA ((((HT.out.same bP.out).same bO.out).same bN.out).same bM.out);have cn:Hid (La J u9):=by have h6:=aZ.out.trans (bP.out.mono aZ.out.size);have h7:=h6.trans (bO.out.mono h6.size);have h8:=h7.trans (bN.out.mono h7.size);exact h8.trans (bM.out.mono h8.size)
 clear HT aZ bP bO bN bM ci;go_upto_region 10 with fail
 go_loopw[11] (λbu wr=>∃i:Nat,i<=200/\bu=R K i/\Hid (TwW A B (λk=>k<J.heap.size) i i wr)/\Hid (La J wr)) (λbu _=>200-(intOf bu).toNat)
 case atStart=>exact⟨0,AR _,rfl,aN,cn⟩
 case round=>
  clear aN cn;obtain⟨i,hi,rfl,HT,HL⟩:=hrel
  by_cases cG:i<200
  ·have hd:decide ((i:Int)<200)=G:=by simp;omega
   go_upto_region 13 with(go_at_call 17;refine(HT.out.pickA om).mono ?_;rintro e x1 ⟨⟨y1,y2,rfl⟩,ac,aE⟩;have aX:=AA ac;have al:=AA (HL.out.trans (aE.belF HL.out.size));clear ac aE)
   go_upto_region 14 with(go_at_call 17;refine(aX.out.pickB om).mono ?_;rintro e x2 ⟨⟨y3,y4,rfl⟩,a1,Y⟩;have aW:=AA a1;have C:=AA (al.out.trans (Y.belF al.out.size));clear a1 Y)
   go_wp2_with fail
   refine(aW.out.viewB om).mono ?_;rintro e x3 ⟨⟨v0,v3,v4,a6,n6,c6,b0,b1,b2,n1,n2,n5,n7,cD,rfl,cE⟩,s,aB⟩;have aV:=AA s;have aM:=AA (C.out.trans (aB.mono C.out.size));have g1:decide ((2:Int)<(n6:Int))=M:=by simp;omega
   have g2:decide (2<n6)=M:=by simp;omega
   clear s aB;go_wp2
   rename_i cu
   go_simp;refine cu _ _ ?_;go_wp2
   go_roundw
   case rel=>exact⟨i+1,by omega,by go_num,aV,aM⟩
   case measure=>simp[intOf];omega
  ·obtain rfl:i=200:=by omega
   have hd:decide ((200:Int)<200)=M:=by decide
   go_upto_region 17 with (first
    |(go_at_call 37;refine HT.out.statB.mono ?_;rintro e x1 ⟨rfl,ac,aE⟩;have aX:=AA ac;have al:=AA (HL.out.trans (aE.mono HL.out.size));clear ac aE)
    |(go_at_call 16;refine aX.out.overB.mono ?_;rintro e x2 ⟨rfl,a1,Y⟩;have aW:=AA a1;have C:=AA (al.out.trans (Y.mono al.out.size));clear a1 Y)
    |(go_at_call 41;refine aW.out.tookB.mono ?_;rintro e x3 ⟨⟨a3,c3,rfl⟩,s,aB⟩;have aV:=AA s;have aM:=AA (C.out.trans (aB.mono C.out.size));clear s aB)
    |(go_at_call 29;refine aV.out.enB.mono ?_;rintro e x4 ⟨⟨a4,c4,rfl⟩,aw,cf⟩;have cm:=AA aw;have bJ:=AA (aM.out.trans (cf.mono aM.out.size));clear aw cf))
   go_wp2_with fail
   refine cm.out.canB.mono ?_;rintro e x5 ⟨rfl,av,ce⟩;have cl:=AA av;have bI:=AA (bJ.out.trans (ce.belF bJ.out.size));clear av ce
   go_wp2_with fail
   refine cl.out.canB.mono ?_;rintro e x6 ⟨rfl,au,ay⟩;have ck:=AA au;have ch:=AA (bI.out.trans (ay.belF bI.out.size));clear au ay HT aX aW aV cm cl al C aM bJ bI HL;go_upto_region 19 with fail
   go_loopw[15] (λbt wr=>∃j:Nat,j<=60/\bt=R K j/\Hid (TwE A B (λk=>k<J.heap.size) j wr)/\Hid (La J wr)) (λbt _=>60-(intOf bt).toNat)
   case atStart=>exact⟨0,AR _,rfl,ck,ch⟩
   case round=>
    clear ck ch;obtain⟨j,hj,rfl,HT,HL⟩:=hrel
    by_cases cF:j<60
    ·have hd:decide ((j:Int)<60)=G:=by simp;omega
     go_wp2_with fail
     refine(HT.out.pickB om).mono ?_;rintro e x7 ⟨⟨y1,y2,rfl⟩,ar,ax⟩;have cy:=AA ar;have cw:=AA (HL.out.trans (ax.belF HL.out.size));clear ar ax;go_wp2
     go_roundw
     case rel=>exact⟨j+1,by omega,by go_num,cy,cw⟩
     case measure=>simp[intOf];omega
    ·obtain rfl:j=60:=by omega
     have hd:decide ((60:Int)<60)=M:=by decide
     clear hd;go_upto_region 23 with(go_at_call 34;refine HT.out.viewB.mono ?_;rintro e x8 ⟨⟨v0,v3,v4,v6,rfl,hv⟩,aq,ae⟩;obtain⟨a0,c0,rfl,_,_⟩:=Co hv.r0;obtain⟨a3,c3,rfl,_,_⟩:=Co hv.r3;obtain⟨a4,c4,rfl,_,_⟩:=Co hv.r4;obtain⟨a6,c6,rfl,_,_⟩:=Co hv.r6;have HV:=AA hv;have cx:=AA aq;have cv:=AA (HL.out.trans (ae.mono HL.out.size));clear hv aq)
     obtain⟨H,aQ⟩:∃X,X=x8.alloc (i7 (vwC (T a0 (vwE G).ph.length c0) (T a3 (vwE G).q.length c3) (T a4 (vwE G).rg.length c4) (T a6 (vwE G).live.length c6) (vwE G)) 63):=⟨_,rfl⟩;obtain⟨g8,aR⟩:∃g,x8.heap.size=g:=⟨_,rfl⟩;have ak:La x8 H:=by rw[aQ];exact AL _ _
     have bA:La wr H:=ae.trans (ak.mono ae.size);have bw:H.heap[g8]?=E (i7 (vwC (T a0 (vwE G).ph.length c0) (T a3 (vwE G).q.length c3) (T a4 (vwE G).rg.length c4) (T a6 (vwE G).live.length c6) (vwE G)) 63 (0,0)):=by rw[aQ,<-aR];exact AT _ _
     have bx:=(AD.1 bw).1;have cd:wr.heap.size<=g8:=by rw[<-aR];exact ae.size
     rw[<-aQ,aR];obtain⟨F2,aH⟩:∃F:Nat->Prop,F=λk=>k<J.heap.size∨wr.heap.size<=k/\k<H.heap.size:=⟨_,rfl⟩;have aN:Hid (TwE A B F2 60 H):=HT.out.more bA λk hk=>by rw[aH]at hk;exact hk
     have aO:Hid (∀V,Chg (λk=>¬F2 k) H V->V.cell? ⟨g8,0,O⟩=E (T a0 5 c0)/\V.cell? ⟨g8,1,O⟩=E (R K 2)/\V.cell? ⟨g8,2,O⟩=E (R K 2)/\V.cell? ⟨g8,3,O⟩=E (T a3 0 c3)/\V.cell? ⟨g8,4,O⟩=E (T a4 0 c4)/\V.cell? ⟨g8,5,O⟩=E (R K 0)/\V.cell? ⟨g8,6,O⟩=E (T a6 0 c6)/\V.cell? ⟨g8,7,O⟩=E (R K 2)/\V.cell? ⟨g8,8,O⟩=E (i6 G)/\V.cell? ⟨g8,9,O⟩=E (i6 G)/\V.cell? ⟨g8,10,O⟩=E (i6 G)/\V.cell? ⟨g8,11,O⟩=E (R K 6)):=λV N=>by have h:V.heap[g8]?=_:=(N.block _ bx λe=>e (by rw[aH];exact .inr ⟨cd,bx⟩)).trans bw;exact⟨by simp[cell?,h,vwE],by simp[cell?,h,vwE],by simp[cell?,h,vwE],by simp[cell?,h,vwE],by simp[cell?,h,vwE],by simp[cell?,h,vwE],by simp[cell?,h,vwE],by simp[cell?,h,vwE],by simp[cell?,h,vwE],by simp[cell?,h,vwE],by simp[cell?,h,vwE],by simp[cell?,h,vwE]⟩
     have bK:=HL.out.trans (bA.mono HL.out.size);have cp:Hid (∀V,Chg (λk=>¬F2 k) H V->La J V):=λV N=>bK.trans (N.below bK.size λk hk e=>e (by rw[aH];exact .inl hk));have aU:Hid (∀V,Chg (λk=>¬F2 k) H V->VwS V wr.heap.size (T a0 (vwE G).ph.length c0) (T a3 (vwE G).q.length c3) (T a4 (vwE G).rg.length c4) (T a6 (vwE G).live.length c6) (vwE G)):=λV N=>(HV.out.below ak).keep N λk h1 h2 e=>e (by rw[aH];exact .inr ⟨h1,h2⟩);have bH:Hid (Chg (λk=>¬F2 k) H H):=.refl _ _;have cH:Hid (∀V W',Chg (λk=>¬F2 k) H V->Chg (λk=>¬F2 k) V W'->Chg (λk=>¬F2 k) H W'):=λV W' h1 h2=>h1.then h2;clear aQ aR ae ak bA bw bx cd aH bK HL HT cx HV cv;obtain⟨bq,bp,bo,bm,bl,bk,bj,bi,bh,bg,ap,ao⟩:=aO.out H bH.out
     go_wp2_with fail
     refine(aN.out.statB).mono ?_;rintro e bS ⟨rfl,ab,b6⟩;have be:=AA ab;have aL:Hid (Chg (λk=>¬F2 k) H bS):=bH.out.same b6;clear b6 ab;clear bq bp bo bm bl bk bj bi bh bg ap ao;obtain⟨bq,bp,bo,bm,bl,bk,bj,bi,bh,bg,ap,ao⟩:=aO.out bS aL.out
     go_wp2_with fail
     refine(be.out.enB).mono ?_;rintro e cq ⟨⟨a7,c7,rfl⟩,aa,b5⟩;have bd:=AA aa;have b9:Hid (Chg (λk=>¬F2 k) H cq):=aL.out.same b5;clear b5 aa;clear bq bp bo bm bl bk bj bi bh bg ap ao aN be bH aL
     go_wp2_with fail
     refine(aqt 0 _).mono ?_;rintro e am ⟨rfl,aD⟩;have bf:=AA aD;have b8:Hid (Chg (λk=>¬F2 k) H am):=b9.out.same aD;clear aD;have bb:=AA (bd.out.same bf.out);have M1:Hid (∀V,Chg (λk=>¬F2 k) H V->Calls ZP 36 #[i8 #[T a0 5 c0,R K 2,R K 2,T a3 0 c3,T a4 0 c4,R K 0,T a6 0 c6,R K 2,i6 G,i6 G,i6 G,R K 6],i8 #[T a0 5 c0,R K 2,R K 2,T a3 0 c3,T a4 0 c4,R K 0,T a6 0 c6,R K 2,i6 G,i6 G,i6 G,R K 6]] V λe w'=>e=ra (i6 G)/\La V w'):=λV N=>aq3 _ _ _ _ _ _ _ _ (vwE G) G V (aU.out V N) (aU.out V N);have M2:Hid (∀V,Chg (λk=>¬F2 k) H V->∀(w0 w3 w4 w6:Vk)(m:Nat),VwS V m w0 w3 w4 w6 (vwE M)->Calls ZP 36 #[i8 #[T a0 5 c0,R K 2,R K 2,T a3 0 c3,T a4 0 c4,R K 0,T a6 0 c6,R K 2,i6 G,i6 G,i6 G,R K 6],i8 (vwC w0 w3 w4 w6 (vwE M))] V λe w'=>e=ra (i6 M)/\La V w'):=λV N w0 w3 w4 w6 m hw=>aq3 _ _ _ _ _ _ _ _ (vwE G) M V (aU.out V N) hw;have R1:Hid (∀V,Calls ZP 26 #[i8 #[R K 2,R K 3,R K 2,R K 1,R K 1,R K 2,R K 0]] V λe w'=>e=ra (i6 G)/\La V w'):=λV=>by
      have:=NG 2 3 2 1 1 2 0 V
      rwa[show Ce 2 3 2 1 1 2 0=G by decide]at this
     have R2:Hid (∀V,Calls ZP 26 #[i8 #[R K 0,R K 0,R K 0,R K 0,R K 0,R K 0,R K 0]] V λe w'=>e=ra (i6 M)/\La V w'):=λV=>by
      have:=NG 0 0 0 0 0 0 0 V
      rwa[show Ce 0 0 0 0 0 0 0=M by decide]at this
     clear bd b9 aU;go_upto_region 26 with fail
     simp only[List.append_eq,CT,Av];obtain⟨D,hD⟩:∃D,D=am.drew:=⟨_,rfl⟩;have aj:La am D:=by rw[hD];exact AN am 1
     have cj:=AA (bb.out.same aj);have cg:=b8.out.same aj;clear bb b8 aj bf;refine Ve ?_;refine Vd (S:=λV=>Chg (λk=>¬F2 k) H V) kr (by rw[<-hD];exact cg) (λhHeld=>?_);rw[<-hD];clear hD hHeld;refine tkA 0 ?_;refine tkA 2 ?_;refine tkA 3 ?_;refine tkA 4 ?_;refine arh 5 (λv V=>∃g,v=T (E ⟨g,0,O⟩) 3 3/\Hts V (E ⟨g,0,O⟩) 3 [(4,1),(4,0),(5,2)]) (λf=>f.tmps[161]?.getD undef=i8 #[R K 4,R K 1]/\f.tmps[162]?.getD undef=i8 #[R K 4,R K 0]/\f.tmps[163]?.getD undef=i8 #[R K 5,R K 2]) ?_ ?_ (λF=>?_)
     ·rintro _ V V' ⟨g,rfl,h⟩ U;exact⟨g,rfl,h.below U⟩
     ·intro f V ⟨g1,g2,g3⟩ N _ KB Z;go_simp;exact Z _ _ (N.same (AL _ _)) ⟨_,rfl,aqH [(4,1),(4,0),(5,2)] (by unfold I64;decide) rfl⟩ (AL _ _)
     refine Oo F 1 (λv V=>∃a cc,v=T a 3 cc/\Hts V a 3 [(4,1),(4,0),(5,2)]/\TwE A B F2 60 V) ?_ ?_
     ·rintro f (rfl|⟨vk,rfl⟩) V N hu KB Z<;>(try simp only[pq]at Z⊢)<;>go_simp<;>(go_at_call 41;refine(cj.out.same hu).tookA.mono ?_;rintro e V2 ⟨⟨a,cc,rfl,hh⟩,ht,Y⟩;exact Z _ _ (N.same Y) ⟨a,cc,rfl,hh,ht⟩ Y)
     rintro _ u1 bG-⟨a8,c8,rfl,ca,ac⟩
     try simp only[pq]
     refine apI F ?_;rintro _ u2 aS Y-⟨g9,rfl,c9⟩
     try simp only[pq]
     have C:=AA (aqd a8 (E ⟨g9,0,O⟩) 3 c8 3 3 [(4,1),(4,0),(5,2)] [(4,1),(4,0),(5,2)] u2 (ca.below Y) c9 (by decide));have a1:=ac.same Y;clear F ca c9 Y ac bG cj cg;refine rdy 6 (λKB Z=>?_);go_simp
     go_at_call 40;refine C.out.mono ?_;rintro e u3 ⟨rfl,U⟩;simp only[decide_true]
     have aF:=aS.same U;have s:=a1.same U;refine Z.out _ _ aF (λI=>?_);clear Z KB I U C aS a1
     try simp only[pq]
     refine tkA 7 ?_;refine tkA 8 ?_;refine tkA 10 ?_;refine rdy 9 (λKB Z=>?_);go_simp
     go_at_call 37;refine(s.statA).mono ?_;rintro e u4 ⟨rfl,aw,U⟩
     have af:=aF.same U;refine Z.out _ _ af (λI=>?_);clear Z KB I U aF s
     try simp only[pq]
     refine tkA 11 ?_;refine tkA 12 ?_;refine tkA 13 ?_;refine tkA 14 ?_;refine rdy 15 (λKB Z=>?_);go_simp
     go_at_call 16;refine(aw.overA).mono ?_;rintro e u5 ⟨rfl,av,U⟩
     have bF:=af.same U;refine Z.out _ _ bF (λI=>?_);clear Z KB I U af aw
     try simp only[pq]
     refine tkA 16 ?_;refine tkA 17 ?_;refine tkA 18 ?_;refine rdy 19 (λKB Z=>?_);go_simp
     go_at_call 21;refine(av.canA).mono ?_;rintro e u6 ⟨rfl,au,U⟩
     have bE:=bF.then U;refine Z.out _ _ bE (λI=>?_);clear Z KB I U bF av
     try simp only[pq]
     refine tkA 20 ?_;refine tkA 21 ?_;refine tkA 22 ?_;refine tkA 23 ?_;refine rdy 24 (λKB Z=>?_);go_simp
     go_at_call 44;refine(au.stepA).mono ?_;rintro e u7 ⟨rfl,ar,U⟩
     have bD:=bE.then U;refine Z.out _ _ bD (λI=>?_);clear Z KB I U bE au
     try simp only[pq]
     refine tkA 25 ?_;refine tkA 26 ?_;refine tkA 27 ?_;refine tkA 28 ?_;refine tkA 29 ?_;refine tkA 30 ?_;refine tkA 31 ?_;refine tkA 32 ?_;refine tkA 33 ?_;refine tkA 34 ?_;refine tkA 35 ?_;refine tkA 36 ?_;refine tkA 37 ?_;refine tkA 38 ?_;refine tkA 39 ?_;refine tkA 40 ?_;refine tkA 41 ?_;refine tkA 42 ?_;refine tkA 43 ?_;refine tkA 44 ?_;refine tkA 45 ?_;refine rdy 46 (λKB Z=>?_);go_simp
     go_at_call 16;refine(aqu u7).mono ?_;rintro e u8 ⟨rfl,U⟩
     have bC:=bD.same U;have aq:=ar.same U;refine Z.out _ _ bC (λI=>?_);clear Z KB I U bD ar
     try simp only[pq]
     refine tkA 47 ?_;refine tkA 48 ?_;refine tkA 49 ?_;refine tkW 50 (v:=?_) ?_ ?_;rotate_left
     ·intro V N;obtain⟨q0,q1,q2,q3,q4,q5,q6⟩:=aP.out V (cp.out V N)
      first|(go_simp;done)|(go_simp;with_reducible rfl)
     try simp only[pq]
     refine rdy 51 (λKB Z=>?_);go_simp
     go_at_call 26;refine(R1.out u8).mono ?_;rintro e u9 ⟨rfl,U⟩
     have bB:=bC.same U;have bX:=aq.same U;refine Z.out _ _ bB (λI=>?_);clear Z KB I U bC aq
     try simp only[pq]
     refine tkA 52 ?_;refine tkA 53 ?_;refine tkA 54 ?_;refine rdy 55 (λKB Z=>?_);go_simp
     go_at_call 26;refine(R2.out u9).mono ?_;rintro e ct ⟨rfl,U⟩
     have ai:=bB.same U;have ab:=bX.same U;refine Z.out _ _ ai (λI=>?_);clear Z KB I U bB bX
     try simp only[pq]
     refine tkA 56 ?_;refine tkA 57 ?_;refine tkA 58 ?_;refine tkB 59 aO.out ?_;refine tkB 60 aO.out ?_;refine rdy 61 (λKB Z=>?_);go_simp
     go_at_call 36;refine(M1.out ct ai).mono ?_;rintro e cC ⟨rfl,U⟩
     have aG:=ai.same U;have aa:=ab.same U;refine Z.out _ _ aG (λI=>?_);clear Z KB I U ai ab
     try simp only[pq]
     refine tkA 62 ?_;refine tkA 63 ?_;refine tkB 64 aO.out ?_;refine tkA 65 ?_;refine rdy 66 (λKB Z=>?_);go_simp
     go_at_call 34;refine(aa.viewA).mono ?_;rintro e cr ⟨⟨w0,w3,w4,w6,rfl,hw⟩,b3,U⟩
     have ag:=aG.same U;have HW:=AA hw;clear hw;refine Z.out _ _ ag (λI=>?_);clear Z KB I U aG aa
     try simp only[pq]
     refine rdy 67 (λKB Z=>?_);go_simp
     go_at_call 36;refine(M2.out cr ag w0 w3 w4 w6 _ HW.out).mono ?_;rintro e cB ⟨rfl,U⟩
     have b7:=ag.same U;have cA:=b3.same U;refine Z.out _ _ b7 (λI=>?_);clear Z KB I U ag b3
     try simp only[pq]
     refine tkA 68 ?_;refine tkA 69 ?_;refine tkA 70 ?_;refine Vg kr ?_ _;refine At ?_;go_wp2;go_ret;exact⟨rfl,cz.out.trans ((co.out.trans ((cp.out _ b7).mono co.out.size)))⟩
def Ox(Z:Lb):Nat:=(Z.map λx=>min (lc x) 200).sum
theorem aq8{Z:Lb}{i:Nat}{x:List Int}(h:Z[i]?=E x):Ox (Z.take (i+1))=Ox (Z.take i)+min (lc x) 200:=by unfold Ox;rw[LH,h];simp
theorem PX(Z:Lb):∀i,Ox (Z.take i)<=200*i
 |0=>by simp[Ox]
 |i+1=>by
  have:=PX Z i
  cases h:Z[i]? with
  |none=>rw[LH,h];simp;omega
  |some x=>rw[aq8 h];omega
def PE(fold:Bool)(wss Z:Lb)(m k:Nat):Bool:=!Ev wss&&Fw fold wss&&decide (lc Z<=40)&&decide (Ox (Z.take 41)<=120)&&decide (m<=20)&&decide (k<=300)
theorem apU{fold:Bool}{wss Z:Lb}{m k:Nat}(h:PE fold wss Z m k=G):Ev wss=M/\Fw fold wss=G/\lc Z<=40/\lc Z.flatten<=120/\m<=20/\k<=300/\∀x∈Z,lc x<=120:=by
 unfold PE at h;simp only[Bq,Bool.not_eq_true',decide_eq_true_eq]at h;obtain⟨⟨⟨⟨⟨h1,h2⟩,h3⟩,h4⟩,h5⟩,h6⟩:=h;rw[Ap om]at h4;have X:∀l:Lb,Ox l<=120->lc l.flatten<=Ox l/\∀x∈l,lc x<=120:=by
  intro l
  induction l with
  |nil=>intro _;exact⟨AC _,λx Y=>by cases Y⟩
  |cons y l ih=>
   intro U;have e:Ox (y::l)=min (lc y) 200+Ox l:=by unfold Ox;rw[BO,List.sum_cons]
   rw[e]at U;obtain⟨N,V⟩:=ih om;refine⟨?_,λx Y=>?_⟩
   ·rw[e,List.flatten_cons,List.length_append];omega
   ·rcases CR.1 Y with rfl|Y
    ·omega
    ·exact V x Y
 obtain⟨N,V⟩:=X Z h4;exact⟨h1,h2,h3,by omega,h5,h6,V⟩
theorem apZ(fold:Bool)(a:Option Addr)(U J:Nat)(b:Option Addr)(n cb:Nat)(d:Option Addr)(m cd:Nat)(f:Option Addr)(k cf:Nat)(wss X:Lb)(w:Wa)(hA:Wds w a U wss)(hB:Wds w b n X) :Calls ZP 22 #[i8 (AM fold a U J),T b n cb,T d m cd,T f k cf] w λe w'=>e=ra (i6 (PE fold wss X m k))/\La w w':=by
 obtain⟨W,hW⟩:∃W,W=w.alloc (i7 (AM fold a U J) 24):=⟨_,rfl⟩;have N:La w W:=by rw[hW];exact AL _ _
 have hO:Bx w.heap.size [i7 (AM fold a U J) 24] W:=by rw[hW];exact(Bx.nil _ w).snoc _ rfl
 have HC:Hid (∀V,La W V->V.cell? ⟨w.heap.size,0,O⟩=E (i6 fold)/\V.cell? ⟨w.heap.size,1,O⟩=E (T a U J)):=λV I=>by have h:=hO.below I;exact⟨h.cell (i:=0) rfl rfl,h.cell (i:=0) rfl rfl⟩
 have hn:lc X=n:=hB.len;have C:=hA.below N;have aa:=hB.below N;have k1:Hid (∀V,La W V->Calls ZP 45 #[i8 (AM fold a U J)] V λe w'=>e=ra (i6 (Ev wss))/\La V w'):=λV I=>ai3 fold a U J wss V (C.below I);have k2:Hid (Ev wss=M->∀V,La W V->Calls ZP 46 #[i8 (AM fold a U J)] V λe w'=>e=ra (i6 (Fw fold wss))/\La V w'):=λhg V I=>by obtain⟨b1,b2,_⟩:=ako hg fold;have hl:=hA.len;exact acH fold a U J wss V (C.below I) om (λx hx=>AS (b2 x hx) om)
 have k3:Hid (∀V,La W V->∀i,i<n->∃q A a' l c' xs,b=E ⟨q,A,O⟩/\V.cell? ⟨q,A+i,O⟩=E (T a' l c')/\X[i]?=E xs/\lc xs=l):=λV I i hi=>by obtain⟨q,A,a',l,c',xs,e,_,h1,h2,h3,_⟩:=(aa.below I).at_ hi;exact⟨q,A,a',l,c',xs,e,h1,h2,h3.1.1⟩
 unfold PE;rw[hn];obtain⟨Gf,hG⟩:∃Gf,Ev wss=Gf:=⟨_,rfl⟩;obtain⟨Ra,hR⟩:∃Gf,Fw fold wss=Gf:=⟨_,rfl⟩;rw[hG]at k1 k2⊢;rw[hR]at k2⊢;obtain⟨D3,H⟩:∃D,decide (m<=20)=D:=⟨_,rfl⟩;obtain⟨D4,a6⟩:∃D,decide (k<=300)=D:=⟨_,rfl⟩;have d3:decide ((m:Int)<=20)=D3:=by rw[<-H,decide_eq_decide];omega
 have d4:decide ((k:Int)<=300)=D4:=by rw[<-a6,decide_eq_decide];omega
 have hm:decide (m<=20)=D3:=H;rw[H,a6];have HB:=AA N;obtain⟨Ta,hT⟩:∃Ta,Ox (X.take 41)=Ta:=⟨_,rfl⟩;have ar:Ta<=8200:=by rw[<-hT];have:=PX X 41;omega
 have ag:Hid (∀i,n<=i∨41<=i->i<=n->i<=41->Ox (X.take i)=Ta):=λi h1 h2 h3=>by
  rw[<-hT]
  rcases h1 with h1|h1
  ·rw[Ap om,Ap om]
  ·rw[show i=41 by omega]
 obtain⟨D1,a8⟩:∃D,decide (n<=40)=D:=⟨_,rfl⟩;obtain⟨D2,a7⟩:∃D,decide (Ta<=120)=D:=⟨_,rfl⟩;have d1:decide ((n:Int)<=40)=D1:=by rw[<-a8,decide_eq_decide];omega
 have d2:decide ((Ta:Int)<=120)=D2:=by rw[<-a7,decide_eq_decide];omega
 rw[hT,a8,a7];clear hT;clear hA hB hO N hn C aa hG hR;go_enter func22,ntmps22;go_upto_region 1 with fail
 rw[<-hW];clear hW;go_upto_region 3 with fail
 go_loopw[9,10] (λs9 ab wr=>∃i:Nat,i<=n/\i<=41/\s9=R K (Ox (X.take i):Nat)/\ab=R K i/\Hid (La W wr)) (λ_ s _=>41-(intOf s).toNat)
 case atStart=>exact⟨0,AR _,by omega,rfl,rfl,AH _ _⟩
 case round=>
  obtain⟨i,ac,j,rfl,rfl,B⟩:=hrel
  by_cases hc:i<n/\i<41
  ·obtain⟨Z,hZ⟩:∃Z,Ox (X.take i)=Z:=⟨_,rfl⟩;have ap:Z<=8200:=by rw[<-hZ];have:=PX X i;omega
   obtain⟨af,ao⟩:=hc;obtain⟨q,A,a',l,c',xs,rfl,ae,hx,v⟩:=k3.out wr B.out i af;have HZ:Hid (Ox (X.take (i+1))=Z+min l 200):=by rw[Hid,aq8 hx,hZ,v]
   have hd:decide ((i:Int)<(n:Int))=G:=by simp;omega
   have am:decide ((i:Int)<=40)=G:=by simp;omega
   have al:decide (i<=40)=G:=by simp;omega
   have ak:decide (i<n)=G:=by simp;omega
   have i1:(0:Int)<=(i:Int):=by omega
   have i2:(i:Int)<(n:Int):=by omega
   obtain⟨Y,hY⟩:∃Y,min l 200=Y:=⟨_,rfl⟩;have aj:min (l:Int) 200=(Y:Int):=by omega
   have aq:Y<=200:=by omega
   have ai:IntKind.i64.wrap ((Z:Int)+(Y:Int))=(Z:Int)+(Y:Int):=by rw[BK];omega
   rw[hY]at HZ;rw[hZ];clear v hx hZ hY;go_wp2
   go_roundw
   case rel=>exact⟨i+1,by omega,by omega,by rw[HZ.out];simp,by simp,B⟩
   case measure=>simp[intOf];omega
  ·have HZ:=ag.out i om ac j;rw[HZ];clear HZ k3;obtain⟨q0,q1⟩:=HC.out _ B.out
   go_wp2_with fail
   all_goals
    refine(k1.out _ B.out).mono ?_;rintro e w1 ⟨rfl,a2⟩;have X1:=AA (B.out.trans (a2.mono B.out.size));clear a2 q0 q1;obtain⟨q0,q1⟩:=HC.out _ X1.out
    cases Gf with
    |true=>
     go_wp2;go_ret;exact⟨rfl,HB.out.trans (X1.out.mono HB.out.size)⟩
    |false=>
     have K2:=AA (k2.out rfl w1 X1.out)
     go_wp2_with fail
     refine K2.out.mono ?_;rintro e w2 ⟨rfl,a1⟩;have X2:=AA (X1.out.trans (a1.mono X1.out.size));clear a1 K2
     cases Ra<;>cases D1<;>cases D2<;>cases D3<;>cases D4<;>(go_wp2;go_ret;exact⟨rfl,HB.out.trans (X2.out.mono HB.out.size)⟩)
theorem aqk:((ZP.fieldsOf 66).toList.map λf=>(f.name,f.type,f.offset))=[("Kind",5,0),("At",3,1)]:=by kernel_rfl
theorem aqE:ZP.eqGuardType ZP.depth 66=M:=by kernel_rfl
def dtB(KB wm:Nat)(text:List Int)(j:Nat):List Int:=(text.take (j*KB+KB)).drop (j*KB-min wm (j*KB))
structure GQ(c:CfM)(text:List Int)(b:Bc):Prop where
 st:b.start=c.F+b.num*c.K
 wm:b.warm=min c.wm (b.num*c.K)
 dt:b.data=dtB c.K c.wm text b.num
 lt:b.num*c.K<text.length
structure RdX(c:CfM)(text:List Int)(s:PlM):Prop where
 rs:text.drop s.read=s.rs.flatten
 le:s.read<=text.length
 tl:s.rd.tail=(text.take s.read).drop (s.read-min c.wm s.read)
 p1:s.rd.ph=1->s.read=s.number*c.K/\s.rd.ended=false
 ah:s.rd.ph=2∨s.rd.ph=3->s.rd.ahead=s.number*c.K/\s.read=s.rd.ahead+s.rd.own/\s.rd.warm=min c.wm s.rd.ahead/\s.rd.buf<s.ds.length/\s.ds.getD s.rd.buf []=(text.take s.read).drop (s.rd.ahead-s.rd.warm)
 p2:s.rd.ph=2->s.rd.own<c.K/\s.rd.ended=false
 p3:s.rd.ph=3->1<=s.rd.own/\(s.rd.ended=false/\s.rd.own=c.K∨s.rd.ended=true/\s.rs=[]/\s.rd.own<=c.K)
 p4:s.rd.ph=4∨s.rd.ph=5->s.rs=[]/\text.length<=s.number*c.K
section
variable {c:CfM}{s t:PlM}{text:List Int}{i:Nat}{x:WkM}
theorem ae0{α:Type}{l:List α}{n:Nat}(h:n<lc l)(a d:α):(l.set n a).getD n d=a:=by rw[DZ,FU h];rfl
theorem akr{α:Type}{l:List α}{n m:Nat}(h:n≠m)(a d:α):(l.set n a).getD m d=l.getD m d:=by rw[DZ,DZ,FH h]
theorem RdX.same(h:RdX c text s)(h1:t.rs=s.rs)(h2:t.read=s.read)(h3:t.rd=s.rd)(h4:t.number=s.number)(h5:lc t.ds=lc s.ds)(h6:s.rd.ph=2∨s.rd.ph=3->t.ds.getD s.rd.buf []=s.ds.getD s.rd.buf []):RdX c text t:=by
 refine⟨?_,?_,?_,?_,λZ=>?_,?_,?_,?_⟩
 ·rw[h1,h2];exact h.rs
 ·rw[h2];exact h.le
 ·rw[h2,h3];exact h.tl
 ·rw[h2,h3,h4];exact h.p1
 ·rw[h3]at Z;obtain⟨N,U,V,X,Y⟩:=h.ah Z;rw[h2,h3,h4,h5,h6 Z];exact⟨N,U,V,X,Y⟩
 ·rw[h3];exact h.p2
 ·rw[h1,h3];exact h.p3
 ·rw[h1,h3,h4];exact h.p4
theorem aiu(s:PlM)(n m:Nat)(h:n≠m):(Bv s n).ds.getD m []=s.ds.getD m []/\(Bv s n).ds.length=lc s.ds:=by
 unfold Bv;dsimp only
 split
 ·exact⟨akr h _ _,BG⟩
 ·exact⟨rfl,rfl⟩
theorem RdX.takeR(h:RdX c text s)(Y:s.rd.ph=1)(hB:s.fr.getLast?.getD 0<lc s.ds)(X:1<=c.K):RdX c text (takeR s):=by
 obtain⟨h1,h2⟩:=h.p1 Y;have Z:lc s.rd.tail=min c.wm s.read:=by rw[h.tl,List.length_drop,Ag];have:=h.le;omega
 refine⟨h.rs,h.le,h.tl,(λe=>by cases e),λ_=>⟨h1,by show s.read=s.read+0;rfl,Z,?_,?_⟩,λ_=>⟨?_,h2⟩,(λe=>by cases e),(λe=>by rcases e with e|e<;>cases e)⟩
 ·show s.fr.getLast?.getD 0<(((s.ds.set _ []).set _ s.rd.tail)).length;rw[BG,BG];exact hB
 ·show((s.ds.set (s.fr.getLast?.getD 0) []).set (s.fr.getLast?.getD 0) s.rd.tail).getD (s.fr.getLast?.getD 0) []=(text.take s.read).drop (s.read-(lc s.rd.tail));rw[ae0 (by rw[BG];exact hB),Z];exact h.tl
 ·show 0<c.K;omega
theorem aeq{Z:Int}{x:List Int}{l:Lb}(X:1<=Z):BR Z (x::l)++(EB Z (x::l)).flatten=(x::l).flatten/\((BR Z (x::l)).length:Int)<=Z/\((BR Z (x::l)).length=Z∨EB Z (x::l)=l)/\(EB Z (x::l)).length<=lc l+1:=by
 unfold BR EB;dsimp only;rw[Lc om,Lc om];unfold Dg GX
 by_cases Y:(lc x:Int)<=Z
 ·rw[Lq Y,Lq Y];exact⟨rfl,Y,.inr rfl,by omega⟩
 ·rw[Lc Y,Lc Y];refine⟨?_,?_,.inl ?_,by simp⟩
  ·rw[List.flatten_cons,List.flatten_cons,<-CE,Dx]
  ·rw[Ag];omega
  ·rw[Ag];omega
theorem ajn{A B D:List Int}{k:Nat}(h:A.drop k=B++D)(hk:k<=lc A):A.drop (k+lc B)=D/\A.take (k+lc B)=A.take k++B/\k+lc B<=lc A:=by
 have e:A=A.take k++(B++D):=by rw[<-h,Dx]
 have Y:(A.take k).length=k:=by rw[Ag];omega
 have Z:=congrArg List.length h;rw[List.length_drop,List.length_append]at Z;refine⟨?_,?_,by omega⟩
 ·rw[<-List.drop_drop,h,List.drop_left'];rfl
 ·rw[List.take_add,h,List.take_left'];rfl
theorem akX{A b:List Int}{wm:Nat}:(A.drop (lc A-min wm (lc A))++b).drop ((A.drop (lc A-min wm (lc A))++b).length-wm)=(A++b).drop ((A++b).length-min wm (A++b).length):=by
 have e:A.drop (lc A-min wm (lc A))++b=(A++b).drop (lc A-min wm (lc A)):=by rw[List.drop_append_of_le_length om]
 rw[e,List.drop_drop];congr 1;rw[List.length_drop,List.length_append];omega
theorem RdX.readR(h:RdX c text s)(U:s.rd.ph=2):RdX c text (readR c s):=by
 obtain⟨C,a2,a3,a4,a5⟩:=h.ah (.inl U);obtain⟨b1,D⟩:=h.p2 U;unfold Proofs.YtaamacoicojhnaaGreat.readR
 rcases(show s.rs=[]∨∃x l,s.rs=x::l by cases s.rs with|nil=>exact .inl rfl|cons x l=>exact .inr ⟨x,l,rfl⟩)with Y|⟨x,l,Y⟩
 ·have h0:=h.rs;rw[Y,List.flatten_nil,List.drop_eq_nil_iff]at h0;rw[Lq (show s.rs.isEmpty=G by rw[Y];rfl)]
  by_cases ho:0<s.rd.own
  ·rw[Lq ho];exact⟨by show text.drop s.read=s.rs.flatten;exact h.rs,h.le,h.tl,(λe=>by cases e),λ_=>⟨C,a2,a3,a4,a5⟩,(λe=>by cases e),λ_=>⟨ho,.inr ⟨rfl,Y,by show s.rd.own<=c.K;omega⟩⟩,(λe=>by rcases e with e|e<;>cases e)⟩
  ·rw[Lc ho];refine⟨by show text.drop s.read=s.rs.flatten;exact h.rs,h.le,h.tl,(λe=>by cases e),(λe=>by rcases e with e|e<;>cases e),(λe=>by cases e),(λe=>by cases e),λ_=>⟨Y,?_⟩⟩;show lc text<=s.number*c.K;omega
 ·rw[Lc (show ¬s.rs.isEmpty=G by rw[Y];simp)];have B:(1:Int)<=(c.K:Int)-s.rd.own:=by omega
  obtain⟨N,I,n3,n4⟩:=aeq (x:=x) (l:=l) B;rw[<-Y]at N I;obtain⟨b,J⟩:∃b,BR ((c.K:Int)-s.rd.own) s.rs=b:=⟨_,rfl⟩;obtain⟨r,V⟩:∃r,EB ((c.K:Int)-s.rd.own) s.rs=r:=⟨_,rfl⟩;rw[J,V]at N;rw[J]at I;rw[J,V];have h0:=h.rs;rw[<-N]at h0;obtain⟨j,H,v⟩:=ajn h0 h.le;have Z:(text.take s.read).length=s.read:=by rw[Ag];have:=h.le;omega
  have X:(text.take (s.read+lc b)).length=s.read+lc b:=by rw[Ag];omega
  refine⟨j,v,?_,λe=>?_,λ_=>⟨C,?_,a3,?_,?_⟩,λe=>⟨?_,D⟩,λe=>?_,λe=>?_⟩
  ·show(s.rd.tail++b).drop ((s.rd.tail++b).length-c.wm)=(text.take (s.read+lc b)).drop (s.read+lc b-min c.wm (s.read+lc b));have e:=akX (A:=text.take s.read) (b:=b) (wm:=c.wm);rw[<-H,Z,X,<-h.tl]at e;exact e
  ·have e:(if s.rd.own+lc b=c.K then 3 else s.rd.ph)=1:=e;rw[U]at e
   split at e<;>cases e
  ·show s.read+lc b=s.rd.ahead+(s.rd.own+lc b);omega
  ·show s.rd.buf<(s.ds.set _ _).length;rw[BG];exact a4
  ·show(s.ds.set s.rd.buf (s.ds.getD s.rd.buf []++b)).getD s.rd.buf []=(text.take (s.read+lc b)).drop (s.rd.ahead-s.rd.warm);rw[ae0 a4,a5,H,List.drop_append_of_le_length (by rw[Z];omega)]
  ·have e:(if s.rd.own+lc b=c.K then 3 else s.rd.ph)=2:=e;show s.rd.own+lc b<c.K
   split at e
   ·cases e
   ·omega
  ·have e:(if s.rd.own+lc b=c.K then 3 else s.rd.ph)=3:=e;rw[U]at e;show 1<=s.rd.own+lc b/\_
   split at e
   ·rename_i hk
    exact⟨by omega,.inl ⟨D,hk⟩⟩
   ·cases e
  ·have e:(if s.rd.own+lc b=c.K then 3 else s.rd.ph)=4∨(if s.rd.own+lc b=c.K then 3 else s.rd.ph)=5:=e;rw[U]at e
   split at e<;>(rcases e with e|e<;>cases e)
theorem RdX.putR(h:RdX c text s)(I:s.rd.ph=3):RdX c text (putR c s)/\GQ c text ⟨s.number,c.F+s.rd.ahead,s.rd.warm,s.ds.getD s.rd.buf [],s.rd.buf⟩:=by
 obtain⟨V,a2,a3,a4,a5⟩:=h.ah (.inr I);obtain⟨D,N⟩:=h.p3 I;have H:=h.le;have U:s.number*c.K<lc text:=by omega
 have X:=h.rs
 constructor
 ·refine⟨h.rs,h.le,h.tl,λe=>?_,λe=>?_,λe=>?_,λe=>?_,λe=>?_⟩
  ·have e:(if s.rd.ended then 4 else 1)=1:=e
   rcases N with⟨Y,Z⟩|⟨Y,Z,J⟩
   ·refine⟨?_,Y⟩;show s.read=(s.number+1)*c.K;rw[Nat.succ_mul];omega
   ·rw[Y]at e;cases e
  ·have e:(if s.rd.ended then 4 else 1)=2∨(if s.rd.ended then 4 else 1)=3:=e
   split at e<;>(rcases e with e|e<;>cases e)
  ·have e:(if s.rd.ended then 4 else 1)=2:=e
   split at e<;>cases e
  ·have e:(if s.rd.ended then 4 else 1)=3:=e
   split at e<;>cases e
  ·have e:(if s.rd.ended then 4 else 1)=4∨(if s.rd.ended then 4 else 1)=5:=e
   rcases N with⟨Y,Z⟩|⟨Y,Z,J⟩
   ·rw[Y]at e;rcases e with e|e<;>cases e
   ·refine⟨Z,?_⟩;show lc text<=(s.number+1)*c.K;rw[Z,List.flatten_nil,List.drop_eq_nil_iff]at X;rw[Nat.succ_mul];omega
 ·refine⟨by rw[V],by rw[a3,V],?_,U⟩;show s.ds.getD s.rd.buf []=dtB c.K c.wm text s.number;rw[a5,a3,V];unfold dtB;congr 1
  rcases N with⟨Y,Z⟩|⟨Y,Z,J⟩
  ·rw[a2,V,Z]
  ·rw[Z,List.flatten_nil,List.drop_eq_nil_iff]at X;rw[Ap X,Ap om]
theorem RdX.shutR(h:RdX c text s)(Z:s.rd.ph=4):RdX c text (shutR s):=⟨h.rs,h.le,h.tl,(λe=>by cases e),(λe=>by rcases e with e|e<;>cases e),(λe=>by cases e),(λe=>by cases e),λ_=>h.p4 (.inl Z)⟩
theorem akN(rs:Lb)(c:CfM):RdX c rs.flatten (Bn c rs):=⟨rfl,AR _,by show([]:List Int)=_;simp[Bn],λ_=>⟨by show 0=0*c.K;rw[Nat.zero_mul],rfl⟩,(λe=>by rcases e with e|e<;>cases e),(λe=>by cases e),(λe=>by cases e),(λe=>by rcases e with e|e<;>cases e)⟩
end
def whH(fold:Bool)(wss:Lb)(st wm:Int)(bs:List Int):List AF:=slH fold wss st wm bs 0 0 (lc bs:Int)
structure apm where
 nu:Int
 st:Int
 wm:Int
 ad:Option Addr
 n:Nat
 c:Nat
 bs:List Int
def prZ(fold:Bool)(wss:Lb)(bs:List Int)(d:Nat):Nat:=Bp fold wss 0 (bs.take d)
def prH(fold:Bool)(wss:Lb)(st wm:Int)(bs:List Int)(d:Nat):List AF:=Dj st (BQ fold wss 0 (st-wm) (bs.take d))
section
variable {fold:Bool}{wss:Lb}{st wm:Int}{bs:List Int}
theorem agT{d:Nat}{m:Int}(Z:d<=lc bs):bs.take (d+Am (lc bs) d m)=bs.take d++CU bs d m:=by unfold CU;rw[Aa,List.take_add]
theorem aoI(h:DI fold wss st wm (lc bs) 0 0=G)(d:Nat):prZ fold wss bs d<(AB wss).length:=JY (by have:=(NP h).2.2.1;omega) _
theorem aou(h:DI fold wss st wm (lc bs) 0 0=G){d:Nat}(Z:d<=lc bs):DI fold wss st wm (lc bs) (prZ fold wss bs d) d=G:=by
 obtain⟨h1,h2,_⟩:=NP h;have h3:=aoI h d;unfold DI KA;rw[h1,h2,Vb (show(0:Int)<=(d:Int)/\(d:Int)<=(lc bs:Int) by omega),Vb (show((0:Int)<=(prZ fold wss bs d:Int)/\(prZ fold wss bs d:Int)<((AB wss).length:Int))/\(0:Int)<=0/\(0:Int)<=4611686020574871551 by omega)]
 rfl
theorem amp(h:DI fold wss st wm (lc bs) 0 0=G){d:Nat}(Y:d<=lc bs)(m:Int) :slZ fold wss st wm bs (prZ fold wss bs d) d m=(prZ fold wss bs (d+Am (lc bs) d m):Nat)/\slD fold wss st wm bs (prZ fold wss bs d) d m=((d+Am (lc bs) d m:Nat):Int)/\
  prH fold wss st wm bs d++slH fold wss st wm bs (prZ fold wss bs d) d m=prH fold wss st wm bs (d+Am (lc bs) d m)/\slO fold wss st wm bs (prZ fold wss bs d) d m=(((d+Am (lc bs) d m:Nat):Int)==(lc bs:Int))/\d+Am (lc bs) d m<=lc bs:=by
 have Z:=aou h Y;have X:=Jw (n:=lc bs) (d:=(d:Int)) (m:=m) om om;rw[Aa]at X;unfold slZ slD slH slO;rw[Lq Z,Lq Z,Lq Z,Lq Z];refine⟨?_,by omega,?_,?_,X⟩
 ·unfold prZ;rw[agT Y,No,Aa]
 ·unfold prH Fs;rw[agT Y,JE,aa5,Ag,Nat.min_eq_left Y,Aa]
  rfl
 ·rw[show(d:Int)+((Am (lc bs) d m:Nat):Int)=((d+Am (lc bs) d m:Nat):Int) by omega]
  rfl
theorem akg(h:DI fold wss st wm (lc bs) 0 0=G):whH fold wss st wm bs=prH fold wss st wm bs (lc bs):=by
 have h3:=(amp h (AR _) (lc bs:Int)).2.2.1;have Z:Am (lc bs) ((0:Nat):Int) (lc bs:Int)=lc bs:=by unfold Am;omega
 rw[Z,DD]at h3;rw[<-h3]
 rfl
end
section
variable {fold:Bool}{wss:Lb}
theorem Lj(Z:An fold wss=G)(frm:Int)(text:List Int):EL fold wss frm text=BQ fold wss 0 frm text:=by rw[amt (Fv Z).1 (λy Y=>((EI Z).2.2.1 y Y).1) (Fv Z).2 frm text,aaJ Z]
theorem aiO(Y:An fold wss=G):∃MH:Nat,Au wss=(MH:Int)/\(∀y∈wss,lc y<=MH)/\1<=MH/\MH<=32:=by obtain⟨MH,h1,h2,h3⟩:=acs wss;refine⟨MH,h1,h2,?_,h3 32 (λv Z=>((EI Y).2.2.1 v Z).2)⟩;obtain⟨_,h4,h5,_⟩:=EI Y;obtain⟨v,Z⟩:=List.exists_mem_of_ne_nil _ h4;have:=(h5 v Z).1;have:=h2 v Z;omega
theorem aiK(Z:An fold wss=G)(frm:Int)(text:List Int)(at_ own:Nat)(k MH:Nat)(A:∀y∈wss,lc y<=MH)(B:at_+own<=lc text)(hk:k<=at_)(U:k=0∨MH<=at_-k+1) :Dj (frm+at_) (BQ fold wss 0 (frm+k) ((text.drop k).take (at_-k+own)))=Gj (frm+at_) (frm+at_+own) (EL fold wss frm text):=by
 have H:(text.take at_).length=at_:=by rw[Ag];omega
 have I:((text.drop at_).take own).length=own:=by rw[Ag,List.length_drop];omega
 have X:=(al8 Z A frm (text.take at_) ((text.drop at_).take own) k (by rw[H];exact hk) (by rw[H];exact U)).1;rw[H,I]at X;have j:(text.take at_).drop k++(text.drop at_).take own=(text.drop k).take (at_-k+own):=by rw[List.take_add,List.drop_take,List.drop_drop,show k+(at_-k)=at_ by omega]
 have e2:text.take at_++(text.drop at_).take own=text.take (at_+own):=by rw[List.take_add]
 rw[j,e2]at X;have Y:(text.drop k).take (at_-k+own)=(text.drop k).take (at_-k+own):=rfl;have C:((text.drop k).take (at_-k+own)).length=at_-k+own:=by rw[Ag,List.length_drop];omega
 have D:0<(AB wss).length:=(AP.1 (CM wss)).1;have s:Dj (frm+at_) (BQ fold wss 0 (frm+k) ((text.drop k).take (at_-k+own)))=Gj (frm+at_) (frm+at_+own) (BQ fold wss 0 (frm+k) ((text.drop k).take (at_-k+own))):=by unfold Dj Gj;refine List.filter_congr λh N=>?_;have J:=(My (Fv Z).1 (λx Y=>((EI Z).2.2.1 x Y).1) _ 0 (frm+k) D h N).1;rw[C]at J;rw[Db];simp;omega
 rw[s,<-X,Lj Z]
 conv=>rhs;rw[<-Dx (at_+own) text,JE]
 unfold Gj;rw[List.filter_append];have v:(BQ fold wss (Bp fold wss 0 (text.take (at_+own))) (frm+((text.take (at_+own)).length:Int)) (text.drop (at_+own))).filter (λh=>decide (frm+(at_:Int)<h.1)&&decide (h.1<=frm+(at_:Int)+(own:Int)))=[]:=by
  rw[List.filter_eq_nil_iff];intro h N;have J:=(My (Fv Z).1 (λx Y=>((EI Z).2.2.1 x Y).1) _ _ _ (JY D _) h N).1;have V:(text.take (at_+own)).length=at_+own:=by rw[Ag];omega
  rw[V]at J;simp;omega
 rw[v,Cx]
theorem akj(V:An fold wss=G)(frm:Int)(text:List Int)(at_ own k MH:Nat)(X:Au wss=(MH:Int))(H:∀y∈wss,lc y<=MH)(Y:at_+own<=lc text)(hk:k<=at_)(Z:k=0∨MH<=at_-k+1)(J:at_-k+1<=MH)(ho:1<=own)(U:own<=256)(C:0<=frm)(I:frm+at_<=4611686020574871551) :whH fold wss (frm+at_) ((at_-k:Nat):Int) ((text.drop k).take (at_-k+own))=Gj (frm+at_) (frm+at_+own) (EL fold wss frm text):=by
 have N:((text.drop k).take (at_-k+own)).length=at_-k+own:=by rw[Ag,List.length_drop];omega
 have D:0<(AB wss).length:=(AP.1 (CM wss)).1;have h0:DI fold wss (frm+at_) ((at_-k:Nat):Int) ((text.drop k).take (at_-k+own)).length 0 0=G:=by
  rw[N];unfold DI KA Dh;rw[V,X,Vb (show((0:Int)<=0/\(0:Int)<((AB wss).length:Int))/\(0:Int)<=0/\(0:Int)<=4611686020574871551 by omega),Vb (show 0<=frm+(at_:Int)/\frm+(at_:Int)<=4611686020574871551/\0<=((at_-k:Nat):Int)/\((at_-k:Nat):Int)<=(MH:Int)-1/\((at_-k:Nat):Int)<=frm+(at_:Int)/\1<=((at_-k+own:Nat):Int)-((at_-k:Nat):Int)/\((at_-k+own:Nat):Int)-((at_-k:Nat):Int)<=256 by omega),Vb (show(0:Int)<=0/\(0:Int)<=((at_-k+own:Nat):Int) by omega)]
  rfl
 rw[akg h0];unfold prH;rw[Ap (AC _),show frm+(at_:Int)-((at_-k:Nat):Int)=frm+(k:Int) by omega];exact aiK V frm text at_ own k MH H Y hk Z
end
def apq(S LN:Nat)(frm:Int)(text:List Int)(j:Nat)(x:apm):Prop:=j*S<lc text/\x.st=frm+((j*S:Nat):Int)/\x.wm=((min (LN-1) (j*S):Nat):Int)/\x.bs=(text.drop (j*S-min (LN-1) (j*S))).take (min (j*S+S) (lc text)-(j*S-min (LN-1) (j*S)))
section
variable {fold:Bool}{wss:Lb}
theorem amj(X:An fold wss=G)(frm:Int)(text:List Int)(F own:Nat)(h:F+own<=lc text) :Gj (frm+F) (frm+F+own) (EL fold wss frm text)=BQ fold wss (Bp fold wss 0 (text.take F)) (frm+F) ((text.drop F).take own):=by
 have V:0<(AB wss).length:=(AP.1 (CM wss)).1;have U:=λ(b:List Int)(z:Nat)(at_:Int)(J:z<(AB wss).length)=>My (fold:=fold) (Fv X).1 (λx Z=>((EI X).2.2.1 x Z).1) b z at_ J;have N:(text.take F).length=F:=by rw[Ag];omega
 have Y:((text.drop F).take own).length=own:=by rw[Ag,List.length_drop];omega
 have e:text=text.take F++((text.drop F).take own++(text.drop F).drop own):=by rw[Dx,Dx]
 rw[Lj X]
 conv=>lhs;rw[e]
 rw[JE,JE,N,Y];unfold Gj;rw[List.filter_append,List.filter_append,List.filter_eq_nil_iff.2,List.filter_eq_self.2,List.filter_eq_nil_iff.2,Av,Cx]
 ·intro x Z;have:=(U _ _ _ (JY (JY V _) _) x Z).1;simp;omega
 ·intro x Z;have:=(U _ _ _ (JY V _) x Z).1;rw[Y]at this;simp;omega
 ·intro x Z;have:=(U _ _ _ V x Z).1;rw[N]at this;simp;omega
theorem aiP(Z:An fold wss=G){S LN:Nat}{frm:Int}{text:List Int}{j:Nat}{x:apm}(J:Au wss=(LN:Int))(U:∀y∈wss,lc y<=LN)(N:1<=LN)(D:1<=S)(V:S<=256)(X:0<=frm)(Y:frm<=4611686018427387904)(H:lc text<=200)(h:apq S LN frm text j x) :whH fold wss x.st x.wm x.bs=BQ fold wss (Bp fold wss 0 (text.take (j*S))) (frm+((j*S:Nat):Int)) ((text.drop (j*S)).take (min (j*S+S) (lc text)-j*S)):=by obtain⟨h1,h2,h3,h4⟩:=h;obtain⟨F,I⟩:∃F,j*S=F:=⟨_,rfl⟩;rw[I]at h1 h2 h3 h4⊢;rw[<-amj Z frm text F _ om,h2,h3,h4];have e:=akj Z frm text F (min (F+S) (lc text)-F) (F-min (LN-1) F) LN J U om om om om om om X om;rw[show F-(F-min (LN-1) F)=min (LN-1) F by omega]at e;rw[<-e,show min (LN-1) F+(min (F+S) (lc text)-F)=min (F+S) (lc text)-(F-min (LN-1) F) by omega]
end
structure Cg(c:CfM)(fold:Bool)(wss:Lb)(text:List Int):Prop where
 right:An fold wss=true
 scan:c.scan=scF fold wss c.S
 lon:Au wss=(c.L:Int)
 mx:∀y∈wss,y.length<=c.L
 L:1<=c.L
 K:1<=c.K/\c.K<=256
 S:1<=c.S/\c.S<=256
 F:c.F<=4611686018427387904
 len:text.length<=200
def hB(c:CfM)(fold:Bool)(wss:Lb)(text:List Int)(j:Nat):List AF:=Dj ((c.F+j*c.K:Nat):Int) (BQ fold wss 0 (((c.F+j*c.K:Nat):Int)-((min c.wm (j*c.K):Nat):Int)) (dtB c.K c.wm text j))
structure WkB(c:CfM)(fold:Bool)(wss:Lb)(text:List Int)(x:WkM):Prop where
 b:GQ c text x.blk
 d:x.done<=x.blk.data.length
 z:x.node=Bp fold wss 0 (x.blk.data.take x.done)
 h:x.hits=Dj (x.blk.start:Int) (BQ fold wss 0 ((x.blk.start:Int)-x.blk.warm) (x.blk.data.take x.done))
 p2:x.ph=2->x.done<x.blk.data.length/\∃k,x.done=k*c.S
 p3:x.ph=3->x.done=x.blk.data.length
def WkX(c:CfM)(fold:Bool)(wss:Lb)(text:List Int)(x:WkM):Prop:=(x.ph=1->x.node=0/\x.done=0/\x.hits=[])/\(x.ph=2∨x.ph=3->WkB c fold wss text x)
section
variable {c:CfM}{fold:Bool}{wss:Lb}{text:List Int}{x:WkM}{b:Bc}
theorem afl(KB wm j:Nat)(text:List Int):(dtB KB wm text j).length=min (j*KB+KB) (lc text)-(j*KB-min wm (j*KB)):=by unfold dtB;rw[List.length_drop,Ag]
theorem GQ.len(h:GQ c text b)(Z:Cg c fold wss text):lc b.data=min (b.num*c.K+c.K) (lc text)-(b.num*c.K-min c.wm (b.num*c.K))/\b.warm<lc b.data/\lc b.data<=b.warm+c.K/\b.warm<=c.wm:=by have e:=afl c.K c.wm b.num text;rw[<-h.dt]at e;have:=h.lt;have:=h.wm;have:=Z.K;omega
theorem GQ.prb(h:GQ c text b)(Z:Cg c fold wss text)(z d:Nat)(Y:z<(AB wss).length)(X:d<=lc b.data):DI fold wss b.start b.warm (lc b.data) z d=G:=by
 obtain⟨h1,h2,h3,h4⟩:=h.len Z;have C:=h.st;have D:=h.wm;have H:=h.lt;have I:=Z.F;have J:=Z.len;have N:=Z.L;have U:=Z.K;have V:c.wm=c.L-1:=rfl;unfold DI KA Dh;rw[Z.right,Z.lon,Vb (show((0:Int)<=(z:Int)/\(z:Int)<((AB wss).length:Int))/\(0:Int)<=0/\(0:Int)<=4611686020574871551 by omega),Vb (show 0<=(b.start:Int)/\(b.start:Int)<=4611686020574871551/\0<=(b.warm:Int)/\(b.warm:Int)<=(c.L:Int)-1/\(b.warm:Int)<=(b.start:Int)/\1<=(lc b.data:Int)-(b.warm:Int)/\(lc b.data:Int)-(b.warm:Int)<=256 by omega),Vb (show 0<=(d:Int)/\(d:Int)<=(lc b.data:Int) by omega)]
 rfl
theorem adP(h:GQ c text b)(Y:Cg c fold wss text)(d:Nat)(V:d<=lc b.data) :c.scan b.start b.warm b.data (Bp fold wss 0 (b.data.take d)) d=(Bp fold wss 0 (b.data.take (d+Am (lc b.data) d c.S)),d+Am (lc b.data) d c.S,Dj (b.start:Int) (BQ fold wss (Bp fold wss 0 (b.data.take d)) ((b.start:Int)-b.warm+d) ((b.data.drop d).take (Am (lc b.data) d c.S))),decide (d+Am (lc b.data) d c.S=lc b.data)):=by
 have X:0<(AB wss).length:=(AP.1 (CM wss)).1;have Z:=h.prb Y (Bp fold wss 0 (b.data.take d)) d (JY X _) V;rw[Y.scan];unfold scF slZ slD slH slO;rw[Lq Z,Lq Z,Lq Z,Lq Z];unfold Fs CU;simp only[Aa];rw[List.take_add,No];have U:((d:Int)+((Am (lc b.data) d c.S:Nat):Int)).toNat=d+Am (lc b.data) d c.S:=by omega
 have e2:decide ((d:Int)+((Am (lc b.data) d c.S:Nat):Int)=(lc b.data:Int))=decide (d+Am (lc b.data) d c.S=lc b.data):=by rw[Db,decide_eq_true_eq,decide_eq_true_eq];omega
 rw[U,e2]
theorem apc(h:GQ c text b):Dj (b.start:Int) (BQ fold wss 0 ((b.start:Int)-b.warm) b.data)=hB c fold wss text b.num:=by unfold hB;rw[h.st,h.wm,h.dt]
theorem WkB.scan(h:WkB c fold wss text x)(V:Cg c fold wss text)(X:x.ph=2):WkB c fold wss text {x with node:=(c.scan x.blk.start x.blk.warm x.blk.data x.node x.done).1,done:=(c.scan x.blk.start x.blk.warm x.blk.data x.node x.done).2.1,hits:=x.hits++(c.scan x.blk.start x.blk.warm x.blk.data x.node x.done).2.2.1,ph:=if(c.scan x.blk.start x.blk.warm x.blk.data x.node x.done).2.2.2 then 3 else x.ph}:=by
 obtain⟨p1,k,p2⟩:=h.p2 X;rw[h.z,adP h.b V x.done h.d];have Y:=Jw (n:=lc x.blk.data) (d:=(x.done:Int)) (m:=(c.S:Int)) om (by have:=h.d;omega);rw[Aa]at Y;refine⟨h.b,Y,rfl,?_,λe=>?_,λe=>?_⟩
 ·show x.hits++_=_;dsimp only;rw[List.take_add,JE,aa5,<-h.h,Ag,Nat.min_eq_left h.d]
 ·dsimp only at e⊢;rw[X]at e
  by_cases Z:x.done+Am (lc x.blk.data) x.done c.S=lc x.blk.data
  ·rw[Lq (Vb Z)]at e;cases e
  ·refine⟨by omega,k+1,?_⟩;rw[Nat.succ_mul,<-p2];unfold Am at Z Y⊢;omega
 ·dsimp only at e⊢;rw[X]at e
  by_cases Z:x.done+Am (lc x.blk.data) x.done c.S=lc x.blk.data
  ·exact Z
  ·rw[Lc (by simp[Z])]at e;cases e
theorem WkX.take(h:WkX c fold wss text x)(X:x.ph=1)(Z:GQ c text b)(Y:Cg c fold wss text):WkX c fold wss text {x with ph:=2,blk:=b}:=by
 obtain⟨h1,h2,h3⟩:=h.1 X;obtain⟨J,N,U,V⟩:=Z.len Y;refine⟨(λe=>by cases e),λ_=>⟨Z,?_,?_,?_,λ_=>⟨?_,0,?_⟩,(λe=>by cases e)⟩⟩
 ·show x.done<=lc b.data;omega
 ·show x.node=Bp fold wss 0 (b.data.take x.done);rw[h1,h2];rfl
 ·show x.hits=Dj (b.start:Int) (BQ fold wss 0 _ (b.data.take x.done));rw[h2,h3];rfl
 ·show x.done<lc b.data;omega
 ·show x.done=0*c.S;rw[h2,Nat.zero_mul]
theorem WkB.done(h:WkB c fold wss text x)(Z:x.ph=3):x.hits=hB c fold wss text x.blk.num:=by have:=h.h;rw[h.p3 Z,Hl]at this;rw[this,apc h.b]
theorem apf(p:Nat)(Z:p=1∨p=4):WkX c fold wss text (wk0 p):=⟨λ_=>⟨rfl,rfl,rfl⟩,λe=>by have e:p=2∨p=3:=e;omega⟩
theorem alT(Z:Cg c fold wss text)(j:Nat)(V:j*c.K<lc text):hB c fold wss text j=BQ fold wss (Bp fold wss 0 (text.take (j*c.K))) ((c.F:Int)+((j*c.K:Nat):Int)) ((text.drop (j*c.K)).take (min (j*c.K+c.K) (lc text)-j*c.K)):=by
 have D:GQ c text ⟨j,c.F+j*c.K,min c.wm (j*c.K),dtB c.K c.wm text j,0⟩:=⟨rfl,rfl,rfl,V⟩;have J:0<(AB wss).length:=(AP.1 (CM wss)).1;have C:dtB c.K c.wm text j=(text.drop (j*c.K-min (c.L-1) (j*c.K))).take (min (j*c.K+c.K) (lc text)-(j*c.K-min (c.L-1) (j*c.K))):=by
  unfold dtB;rw[List.drop_take];show(text.drop (j*c.K-min (c.L-1) (j*c.K))).take (j*c.K+c.K-(j*c.K-min (c.L-1) (j*c.K)))=_
  by_cases I:j*c.K+c.K<=lc text
  ·rw[Nat.min_eq_left I]
  ·rw[Nat.min_eq_right (show lc text<=j*c.K+c.K by omega),Ap (by rw[List.length_drop];omega),Ap (by rw[List.length_drop];omega)]
 have H:apq c.K c.L (c.F:Int) text j ⟨(j:Int),(c.F:Int)+((j*c.K:Nat):Int),((min (c.L-1) (j*c.K):Nat):Int),O,0,0,dtB c.K c.wm text j⟩:=⟨V,rfl,rfl,C⟩;have N:=aiP Z.right Z.lon Z.mx Z.L Z.K.1 Z.K.2 om (by have:=Z.F;omega) Z.len H;rw[<-N];have Y:=D.prb Z 0 0 J (AR _);have X:((c.F+j*c.K:Nat):Int)=(c.F:Int)+((j*c.K:Nat):Int):=by omega
 unfold hB whH slH Fs CU;dsimp only at Y⊢;rw[X]at Y⊢;rw[Lq (by exact Y)];have U:c.wm=c.L-1:=rfl;congr 2
 ·omega
 ·unfold Am;rw[Ap]
  ·rfl
  ·rw[List.length_drop];omega
theorem amV(Y:Cg c fold wss text):∀i,(i=0∨(i-1)*c.K<lc text)->(List.range i).flatMap (hB c fold wss text)=BQ fold wss 0 (c.F:Int) (text.take (i*c.K))
 |0,_=>by rw[Nat.zero_mul];rfl
 |i+1,h=>by
  have Z:i*c.K<lc text:=by
   rcases h with h|h
   ·cases h
   ·exact h
  have V:i=0∨(i-1)*c.K<lc text:=by
   rcases i with _|i
   ·exact .inl rfl
   ·refine .inr (Nat.lt_of_le_of_lt (IO _ ?_) Z);omega
  rw[El,List.flatMap_append,amV Y i V,List.flatMap_cons,List.flatMap_nil,Cx,alT Y i Z];have e:text.take ((i+1)*c.K)=text.take (i*c.K)++(text.drop (i*c.K)).take (min (i*c.K+c.K) (lc text)-i*c.K):=by
   rw[Nat.succ_mul]
   by_cases X:i*c.K+c.K<=lc text
   ·rw[Nat.min_eq_left X,<-List.take_add,show i*c.K+(i*c.K+c.K-i*c.K)=i*c.K+c.K by omega]
   ·rw[Nat.min_eq_right om,<-List.take_add,show i*c.K+(lc text-i*c.K)=lc text by omega,Hl,Ap om]
  rw[e,JE,Ag,Nat.min_eq_left (DP Z)]
theorem aoe(Z:Cg c fold wss text)(B:Nat)(h1:B=0∨(B-1)*c.K<lc text)(h2:lc text<=B*c.K):(List.range B).flatMap (hB c fold wss text)=EL fold wss (c.F:Int) text:=by rw[amV Z B h1,Ap h2,Lj Z.right]
end
structure CQ(c:CfM)(fold:Bool)(wss:Lb)(text:List Int)(s:PlM):Prop where
 rd:RdX c text s
 q:∀b∈s.q,GQ c text b
 w:∀(i:Nat)(x:WkM),s.wk[i]?=some x->WkX c fold wss text x
 g:∀(i:Nat)(h:List AF),s.rg[i]?=some (some h)->h=hB c fold wss text (s.next+i)/\(s.next+i)*c.K<text.length
 m:s.took++s.out++s.left=(List.range s.next).flatMap (hB c fold wss text)
 w4:∀(i:Nat)(x:WkM),s.wk[i]?=some x->x.ph=4->s.rd.ph=5/\s.q=[]
 m3:s.mph=3->s.rd.ph=5/\s.next=s.number
 e2:s.eph=2->s.mph=3/\s.out=[]
 m1:s.mph≠2->s.left=[]
 nb:s.number=0∨(s.number-1)*c.K<text.length
section
variable {c:CfM}{fold:Bool}{wss:Lb}{text:List Int}{s t:PlM}{i k:Nat}{x:WkM}
theorem CQ.rdr(h:CQ c fold wss text s)(h5:s.rd.ph≠5)(V:RdX c text t)(h1:∀b∈t.q,GQ c text b)(h2:t.wk=s.wk)(h3:t.rg=s.rg)(h4:t.next=s.next)(J:t.took=s.took)(e2:t.out=s.out)(X:t.left=s.left)(Z:t.mph=s.mph)(N:t.eph=s.eph)(h6:t.number=0∨(t.number-1)*c.K<lc text):CQ c fold wss text t:=⟨V,h1,by rw[h2];exact h.w,by rw[h3,h4];exact h.g,by rw[J,e2,X,h4];exact h.m,λi x Y U=>by rw[h2]at Y;exact absurd (h.w4 i x Y U).1 h5,λe=>by rw[Z]at e;exact absurd (h.m3 e).1 h5,by rw[N,Z,e2];exact h.e2,by rw[Z,X];exact h.m1,h6⟩
theorem CQ.stepR(h:CQ c fold wss text s)(D:Cg c fold wss text)(Y:EE c s)(J:s.cancelled=M)(X:Ck c s=G):CQ c fold wss text (stepR c s):=by
 have h5:s.rd.ph≠5:=λe=>by unfold Ck at X;rw[Lq e]at X;cases X
 have U:¬s.cancelled=G:=by rw[J];decide
 have C:=Y.a.r.ph;unfold Proofs.YtaamacoicojhnaaGreat.stepR;rw[Lc U]
 split
 ·rename_i h1
  have ha:Du s.next c.R s.number=G:=by unfold Ck at X;rw[Lc h5,Lc U,Lq h1]at X;exact X
  have V:=Y.b.free (Y.n J) Y.a.r h1 ha;have hB:s.fr.getLast?.getD 0<lc s.ds:=by rw[MV V];have:=(AP.1 (Y.b.uf _ (List.getLast_mem V))).1;rw[Y.b.dl,<-Y.b.ul];exact this
  exact h.rdr h5 (h.rd.takeR h1 hB D.K.1) h.q rfl rfl rfl rfl rfl rfl rfl rfl h.nb
 ·split
  ·rename_i H h2
   have N:=h.rd.readR (c:=c) h2;refine h.rdr h5 N ?_ ?_ ?_ ?_ ?_ ?_ ?_ ?_ ?_ ?_
   all_goals
    unfold readR;dsimp only
    split
    ·split
     ·first|rfl|exact h.q|exact h.nb
     ·first|rfl|exact h.q|exact h.nb
    ·first|rfl|exact h.q|exact h.nb
  ·split
   ·rename_i H A h3
    obtain⟨B,I⟩:=h.rd.putR h3;refine h.rdr h5 B (λb Z=>?_) rfl rfl rfl rfl rfl rfl rfl rfl (.inr ?_)
    ·have Z:b∈s.q++[_]:=Z
     rcases Bf.1 Z with Z|Z
     ·exact h.q b Z
     ·rw[Fq]at Z;rw[Z];exact I
    ·show(s.number+1-1)*c.K<lc text;exact I.lt
   ·have h4:s.rd.ph=4:=by omega
    exact h.rdr h5 (h.rd.shutR h4) h.q rfl rfl rfl rfl rfl rfl rfl rfl h.nb
theorem CQ.wkr(h:CQ c fold wss text s)(U:s.wk[i]?=E x)(f:WkM->WkM)(C:WkX c fold wss text (f x))(h4:(f x).ph=4->s.rd.ph=5/\t.q=[])(H:RdX c text t)(h1:∀b∈t.q,b∈s.q)(h2:t.wk=s.wk.modify i f)(h3:∀(i:Nat)(h:List AF),t.rg[i]?=E (E h)->h=hB c fold wss text (s.next+i)/\(s.next+i)*c.K<lc text)(V:t.next=s.next)(e1:t.took=s.took)(e2:t.out=s.out)(I:t.left=s.left)(X:t.mph=s.mph)(e:t.eph=s.eph)(J:t.rd=s.rd)(N:t.number=s.number):CQ c fold wss text t:=by
 refine⟨H,λb B=>h.q b (h1 b B),λj y Z=>?_,by rw[V];exact h3,by rw[e1,e2,I,V];exact h.m,λj y Z Y=>?_,by rw[X,J,V,N];exact h.m3,by rw[e,X,e2];exact h.e2,by rw[X,I];exact h.m1,by rw[N];exact h.nb⟩
 ·rw[h2]at Z;exact Ju h.w U C j y Z
 ·rw[h2]at Z;rw[J];refine Ju (p:=λy=>y.ph=4->s.rd.ph=5/\t.q=[]) (λj y Z Y=>?_) U h4 j y Z Y;obtain⟨v,A⟩:=h.w4 j y Z Y;refine⟨v,?_⟩
  cases D:t.q with
  |nil=>rfl
  |cons b l=>have:=h1 b (by rw[D];exact List.mem_cons_self ..);rw[A]at this;cases this
theorem CQ.stepW(h:CQ c fold wss text s)(D:Cg c fold wss text)(N:EE c s)(C:s.cancelled=M)(Y:s.wk[i]?=E x)(X:Er s i=G):CQ c fold wss text (stepW c s i):=by
 have H:¬s.cancelled=G:=by rw[C];decide
 have hp:=N.a.r.wp _ x Y;have hW:=h.w i x Y;have h4:x.ph≠4:=λe=>by unfold Er at X;rw[Y]at X;dsimp only at X;rw[Lq e]at X;cases X
 unfold Proofs.YtaamacoicojhnaaGreat.stepW;rw[Lc H,Fc Y]
 split
 ·rename_i h1
  unfold takeW
  cases J:s.q with
  |nil=>
   have B:s.rd.ph=5:=by unfold Er at X;rw[Y]at X;dsimp only at X;rw[Lc h4,Lq h1]at X;unfold Ep at X;rw[J,N.a.f.shu]at X;exact Kf (by simpa using X)
   refine h.wkr Y (λw=>{w with ph:=4}) ⟨(λe=>by cases e),(λe=>by rcases e with e|e<;>cases e)⟩ (λ_=>⟨B,J⟩) (h.rd.same rfl rfl rfl rfl rfl λ_=>rfl) (λb V=>V) rfl h.g rfl rfl rfl rfl rfl rfl rfl rfl
  |cons b l=>
   refine h.wkr Y (λw=>{w with ph:=2,blk:=b}) (hW.take h1 (h.q b (by rw[J];exact List.mem_cons_self ..)) D) (λe=>by cases e) (h.rd.same rfl rfl rfl rfl rfl λ_=>rfl) (λb' V=>by rw[J];exact MT _ V) rfl h.g rfl rfl rfl rfl rfl rfl rfl rfl
 ·rename_i n1
  split
  ·rename_i h2
   have A:=(hW.2 (.inl h2)).scan D h2;unfold scanW;refine h.wkr Y _ ⟨λe=>?_,λ_=>A⟩ (λe=>?_) (h.rd.same rfl rfl rfl rfl rfl λ_=>rfl) (λb V=>V) rfl h.g rfl rfl rfl rfl rfl rfl rfl rfl
   ·dsimp only at e;rw[h2]at e
    split at e<;>cases e
   ·dsimp only at e;rw[h2]at e
    split at e<;>cases e
  ·rename_i v
   have h3:x.ph=3:=by omega
   have hB:=hW.2 (.inr h3);obtain⟨p1,p2,p3,p4⟩:=(N.n C).place N.a.f.gl Y (.inr h3);unfold putWM;rw[Y];dsimp only;rw[Ly (s:={s with rg:=s.rg.set (x.blk.num-s.next) (E x.hits)}) Y];have I:s.rd.ph=2∨s.rd.ph=3->x.blk.buf≠s.rd.buf:=λe e2=>by
    have Z:=N.b.cnt s.rd.buf;unfold Cu rdB at Z;rw[Lq (N.a.r.ho.2 e),En]at Z;have h6:0<((If s).map Bc.buf).count s.rd.buf:=by refine Iv.2 (Be.2 ⟨x.blk,?_,e2⟩);unfold If;refine List.mem_append_right _ (Ir.2 ⟨x,AX Y,?_⟩);unfold Proofs.YtaamacoicojhnaaGreat.hW;rw[Lq (.inr h3)];exact List.mem_singleton_self _
    have h7:([s.rd.buf]:List Nat).count s.rd.buf=1:=by simp
    rw[h7]at Z
    split at Z<;>omega
   refine h.wkr Y (λ_=>wk0 1) (apf 1 (.inl rfl)) (λe=>by cases e) (h.rd.same rfl rfl rfl rfl ?_ λe=>?_) (λb V=>V) rfl (λj l U=>?_) rfl rfl rfl rfl rfl rfl rfl rfl
   ·exact(aiu {s with rg:=s.rg.set (x.blk.num-s.next) (E x.hits)} x.blk.buf (x.blk.buf+1) om).2
   ·exact(aiu {s with rg:=s.rg.set (x.blk.num-s.next) (E x.hits)} x.blk.buf s.rd.buf (I e)).1
   ·have U:(s.rg.set (x.blk.num-s.next) (E x.hits))[j]?=E (E l):=U
    by_cases e:x.blk.num-s.next=j
    ·subst e;rw[FU (AP.1 p4).1]at U
     cases AK (AK U)
     rw[show s.next+(x.blk.num-s.next)=x.blk.num by omega];exact⟨hB.done h3,hB.b.lt⟩
    ·rw[FH e]at U;exact h.g j l U
theorem CQ.stepMg(h:CQ c fold wss text s)(hP:EE c s)(hc:s.cancelled=M)(Z:EX c s=G):CQ c fold wss text (stepMg s):=by
 have D:¬s.cancelled=G:=by rw[hc];decide
 have a2:=hP.a.r.mp;have h3:s.mph≠3:=λe=>by unfold EX at Z;rw[Lq e]at Z;cases Z
 have Y:s.eph≠2:=λe=>h3 (h.e2 e).1;unfold Proofs.YtaamacoicojhnaaGreat.stepMg;rw[Lc D]
 split
 ·rename_i h1
  have U:=h.m1 om;have N:=h.m;rw[U,Cx]at N;unfold takeM
  split
  ·rename_i J r C
   have g0:=h.g 0 J (by rw[C];rfl);rw[DQ]at g0;have v:(List.range (s.next+1)).flatMap (hB c fold wss text)=s.took++s.out++J:=by rw[El,List.flatMap_append,List.flatMap_cons,List.flatMap_nil,Cx,<-N,<-g0.1]
   have I:∀(i:Nat)(l:List AF),(r++[O])[i]?=E (E l)->l=hB c fold wss text (s.next+1+i)/\(s.next+1+i)*c.K<lc text:=λi l X=>by
    have A:i<lc r:=Md λa1=>by
     rw[DY om]at X
     cases j:i-(lc r) with
     |zero=>rw[j]at X;cases X
     |succ n=>rw[j]at X;cases X
    rw[By A]at X;have:=h.g (i+1) l (by rw[C];exact X);rw[show s.next+(i+1)=s.next+1+i by omega]at this;exact this
   split
   ·rename_i V
    have H:J=[]:=by cases J with
     |nil=>rfl
     |cons a b=>cases V
    refine⟨h.rd.same rfl rfl rfl rfl rfl λ_=>rfl,h.q,h.w,I,?_,h.w4,λe=>absurd e h3,λe=>absurd e Y,h.m1,h.nb⟩;show s.took++s.out++s.left=_;rw[v,U,H]
   ·refine⟨h.rd.same rfl rfl rfl rfl rfl λ_=>rfl,h.q,h.w,I,?_,h.w4,(λe=>by cases e),λe=>absurd e Y,λe=>absurd rfl e,h.nb⟩;show s.took++s.out++J=_;rw[v]
  ·rename_i B
   have hs:s.rd.ph=5/\s.next=s.number:=by
    unfold EX at Z;rw[Lc h3,Lc D,Lq h1]at Z;unfold Gt at Z
    split at Z
    ·rename_i a b C;exact absurd C (B a b)
    ·rw[Bool.false_or,Bq,decide_eq_true_eq,decide_eq_true_eq]at Z;exact Z
   exact⟨h.rd.same rfl rfl rfl rfl rfl λ_=>rfl,h.q,h.w,h.g,h.m,h.w4,λ_=>hs,λe=>absurd e Y,λ_=>U,h.nb⟩
 ·rename_i n1
  have h2:s.mph=2:=by omega
  unfold flushM
  cases U:s.left with
  |nil=>exact absurd U (hP.a.f.ml h2)
  |cons a l=>
   have N:=h.m;rw[U]at N;refine⟨h.rd.same rfl rfl rfl rfl rfl λ_=>rfl,h.q,h.w,h.g,?_,h.w4,λe=>?_,λe=>absurd e Y,λe=>?_,h.nb⟩
   ·show s.took++(s.out++[a])++l=_;rw[<-N];simp
   ·have e:(if l.isEmpty then 1 else s.mph)=3:=e
    split at e
    ·cases e
    ·exact absurd e h3
   ·have e:(if l.isEmpty then 1 else s.mph)≠2:=e;show l=[]
    split at e
    ·rename_i V
     cases l with
     |nil=>rfl
     |cons a b=>cases V
    ·exact absurd h2 e
theorem CQ.offerE(h:CQ c fold wss text s)(X:EE c s)(Z:Fx s=G):CQ c fold wss text (offerE c s):=by
 have h2:s.eph≠2:=λe=>by unfold Fx at Z;rw[Lq e]at Z;cases Z
 unfold Proofs.YtaamacoicojhnaaGreat.offerE
 split
 ·rename_i ho
  have Y:s.mph=3:=by unfold Fx at Z;rw[Lc h2]at Z;unfold IV at Z;rw[ho,X.a.f.en]at Z;exact Kf (by simpa using Z)
  exact⟨h.rd.same rfl rfl rfl rfl rfl λ_=>rfl,h.q,h.w,h.g,h.m,h.w4,h.m3,λ_=>⟨Y,ho⟩,h.m1,h.nb⟩
 ·rename_i a l ho
  have Y:=h.m;rw[ho]at Y
  split
  ·refine⟨h.rd.same rfl rfl rfl rfl rfl λ_=>rfl,h.q,h.w,h.g,?_,h.w4,h.m3,λe=>absurd e h2,h.m1,h.nb⟩;show s.took++[a]++l++s.left=_;rw[<-Y];simp
  ·exact⟨h.rd.same rfl rfl rfl rfl rfl λ_=>rfl,h.q,h.w,h.g,h.m,h.w4,h.m3,λe=>absurd e h2,h.m1,h.nb⟩
theorem CQ.step(h:CQ c fold wss text s)(U:Cg c fold wss text)(X:EE c s)(Y:s.cancelled=M)(Z:Bj c s k=G):CQ c fold wss text (Bi c s k):=by
 have V:¬s.cancelled=G:=by rw[Y];decide
 unfold Bj at Z;unfold Bi
 split at Z
 ·rw[Lq (by assumption)];exact h.stepR U X Y Z
 ·rw[Lc (by assumption)]
  split at Z
  ·rw[Lq (by assumption)];obtain⟨x,N,h4⟩:=JH Z;exact h.stepW U X Y N Z
  ·rw[Lc (by assumption)]
   split at Z
   ·rw[Lq (by assumption)];exact h.stepMg X Y Z
   ·rw[Lc (by assumption)]
    split at Z
    ·unfold stepE;rw[Lc V];exact h.offerE X Z
    ·cases Z
theorem aj3(rs:Lb):CQ c fold wss rs.flatten (Bn c rs):=by
 refine⟨akN rs c,(λb V=>by cases V),λi x Z=>?_,λi h X=>?_,rfl,λi x Z Y=>?_,(λe=>by cases e),(λe=>by cases e),λ_=>rfl,.inl rfl⟩
 ·have:=Ho (AX (show(List.replicate c.W (wk0 1))[i]?=E x from Z));rw[this];exact apf 1 (.inl rfl)
 ·have:=Ho (AX (show(List.replicate c.R O)[i]?=E (E h) from X))
  cases this
 ·have:=Ho (AX (show(List.replicate c.W (wk0 1))[i]?=E x from Z));rw[this]at Y
  cases Y
end
section
variable (c:CfM)(fold:Bool)(wss:Lb)(text:List Int)
def nbB:Nat:=(lc text+c.K - 1) / c.K
end
section
variable {c:CfM}{fold:Bool}{wss:Lb}{text:List Int}{s t:PlM}{i k:Nat}{x:WkM}
theorem aiB(Z:1<=c.K)(j:Nat):j<nbB c text↔j*c.K<lc text:=by unfold nbB;have:=Nat.le_div_iff_mul_le (k:=c.K) (x:=j+1) (y:=lc text+c.K-1) om;rw[Nat.succ_mul]at this;omega
end
structure Pj(c:CfM)(s:PlM):Prop where
 w4:∀(i:Nat)(x:WkM),s.wk[i]?=some x->x.ph=4->s.rd.ph=5/\s.q=[]
 m3:s.mph=3->∀y,(Cj s.next s.rg).count y=0
 e2:s.eph=2->s.mph=3/\s.out=[]
section
variable {c:CfM}{fold:Bool}{wss:Lb}{text:List Int}{s t:PlM}{i:Nat}{x:WkM}
theorem Pj.of(h:CQ c fold wss text s)(Z:Ba c s):Pj c s:=⟨h.w4,λe y=>by have h1:=Z.cnt y;have h2:=(h.m3 e).2;rw[Ea,Lc om]at h1;omega,h.e2⟩
theorem Pj.wkr(h:Pj c s){f:WkM->WkM}(X:s.wk[i]?=E x)(h1:t.wk=s.wk.modify i f)(h2:t.rd=s.rd)(h3:t.q=s.q)(V:(f x).ph=4->s.rd.ph=5/\s.q=[])(h4:t.mph=s.mph)(h5:t.next=s.next)(h6:t.rg=s.rg)(h7:t.eph=s.eph)(h8:t.out=s.out):Pj c t:=by
 refine⟨λj y Z h=>?_,by rw[h4,h5,h6];exact h.m3,by rw[h4,h7,h8];exact h.e2⟩;rw[h2,h3];rw[h1,GS]at Z
 by_cases Y:i=j
 ·subst Y;rw[X]at Z;have Z:E (f x)=E y:=by simpa using Z
  cases Z
  exact V h
 ·exact ‹Pj c s›.w4 j y (by simpa[Y]using Z) h
theorem Pj.step(h:Pj c s)(C:EE c s)(D:s.cancelled=G){k:Nat}(Z:Bj c s k=G):Pj c (Bi c s k):=by
 unfold Bj at Z;unfold Bi
 split at Z
 ·rw[Lq (by assumption)];unfold stepR stopR shutR;rw[Lq D]
  split
  ·exact⟨λj y Y U=>⟨rfl,(h.w4 j y Y U).2⟩,h.m3,h.e2⟩
  ·exact⟨λj y Y U=>⟨rfl,(h.w4 j y Y U).2⟩,h.m3,h.e2⟩
 ·rw[Lc (by assumption)]
  split at Z
  ·rw[Lq (by assumption)];obtain⟨x,X,h4⟩:=JH Z;unfold stepW;rw[Lq D];unfold stopW;rw[Fc X];dsimp only
   by_cases h1:x.ph=1
   ·rw[Lq h1];have V:Ep s=G:=by unfold Er at Z;rw[X]at Z;dsimp only at Z;rw[Lc h4,Lq h1]at Z;exact Z
    cases J:s.q with
    |nil=>
     have H:takeW s (k-1)=setW s (k-1) λw=>{w with ph:=4}:=by unfold takeW;rw[J]
     have e:(takeW s (k-1)).wk[k-1]?=E {x with ph:=4}:=by rw[H];exact KW X _
     rw[Fc e,Lq rfl,H];have N:s.shut=G:=by unfold Ep at V;rw[J]at V;exact V
     refine h.wkr X rfl rfl rfl (λ_=>⟨?_,J⟩) rfl rfl rfl rfl rfl;rw[C.a.f.shu]at N;exact Kf N
    |cons b q=>
     have H:takeW s (k-1)={setW s (k-1) (λw=>{w with ph:=2,blk:=b})with q:=q}:=by unfold takeW;rw[J]
     have e:(takeW s (k-1)).wk[k-1]?=E {x with ph:=2,blk:=b}:=by rw[H];exact KW X _
     rw[Fc e,Lc (show ¬(2=4) by decide),Ly e,H];refine⟨λj y Y U=>?_,h.m3,h.e2⟩
     exfalso
     have Y:((s.wk.modify (k-1) λw=>{w with ph:=2,blk:=b}).modify (k-1) λ_=>wk0 1)[j]?=E y:=Y;rw[GS]at Y
     by_cases I:k-1=j
     ·subst I;rw[KW X]at Y;have Y:E (wk0 1)=E y:=by simpa using Y
      cases Y
      cases U
     ·rw[GS]at Y;simp[I]at Y;have:=(h.w4 j y Y U).2;rw[J]at this
      cases this
   ·rw[Lc h1,Fc X,Lc h4,Ly X];exact h.wkr X rfl rfl rfl (λe=>by cases e) rfl rfl rfl rfl rfl
  ·rw[Lc (by assumption)]
   split at Z
   ·rw[Lq (by assumption)];unfold stepMg Hr;rw[Lq D];exact⟨h.w4,λ_ y=>by rw[acz];rfl,λe=>⟨rfl,(h.e2 e).2⟩⟩
   ·rw[Lc (by assumption)]
    split at Z
    ·unfold Fx at Z;have h2:s.eph≠2:=λe=>by rw[Lq e]at Z;cases Z
     rw[Lc h2]at Z;unfold stepE Fr;rw[Lq D]
     cases ho:s.out with
     |nil=>
      refine⟨h.w4,h.m3,λ_=>⟨?_,rfl⟩⟩;unfold IV at Z;rw[ho,C.a.f.en]at Z;exact Kf Z
     |cons a l=>exact⟨h.w4,h.m3,λe=>absurd e h2⟩
    ·cases Z
end
structure Pi(c:CfM)(fold:Bool)(wss:Lb)(text:List Int)(D L i:Nat)(s:PlM):Prop where
 t:FC c 400 D L i s
 z:Pj c s
 x:s.cancelled=false->CQ c fold wss text s
section
variable {c:CfM}{fold:Bool}{wss:Lb}{text:List Int}{s:PlM}{D LO i:Nat}
theorem Pi.new(hW:1<=c.W)(rs:Lb)(Z:rs.flatten=text)(X:∀r∈rs,FS r/\lc r<=LO):Pi c fold wss text D LO 0 (Bn c rs):=by subst Z;have Z:=FC.new (H:=400) (D:=D) hW rs X;have Y:=aj3 (c:=c) (fold:=fold) (wss:=wss) rs;exact⟨Z,Pj.of Y (Z.p.n rfl),λ_=>Y⟩
theorem Pi.up(h:Pi c fold wss text D LO i s):Pi c fold wss text D LO (i+1) s:=⟨h.t.up,h.z,h.x⟩
theorem Pi.step(h:Pi c fold wss text D LO i s)(V:Cg c fold wss text)(U:ML c 400 D){k:Nat}(X:Bj c s k=G):Pi c fold wss text D LO (i+1) (Bi c s k):=by
 have Y:=h.t.step V.K.2 U X
 cases Z:s.cancelled with
 |true=>exact⟨Y,h.z.step h.t.p Z X,λe=>by rw[ae3,Z]at e;cases e⟩
 |false=>
  have h2:=(h.x Z).step V h.t.p Z X;exact⟨Y,Pj.of h2 (Y.p.n (by rw[ae3];exact Z)),λ_=>h2⟩
theorem Pi.pick(h:Pi c fold wss text D LO i s)(Z:Cg c fold wss text)(X:ML c 400 D)(z:Int):Pi c fold wss text D LO (i+1) (Fi c s z):=by
 unfold Fi
 cases Y:EZ c s z with
 |none=>exact h.up
 |some k=>exact h.step Z X (aaO Y).2
theorem Pi.cancel(h:Pi c fold wss text D LO i s):Pi c fold wss text D LO i (LN s):=by
 have Z:=h.t.cancel;unfold LN at Z⊢
 split
 ·exact h
 ·rename_i e
  rw[Lc e]at Z;exact⟨Z,⟨h.z.w4,h.z.m3,h.z.e2⟩,λe=>by cases e⟩
theorem Pi.mov(h:Pi c fold wss text D LO i s)(Z:Cg c fold wss text)(X:ML c 400 D)(d z:Int):Pi c fold wss text D LO (i+1) (PD c s d z):=by
 unfold PD
 split
 ·exact h.pick Z X z
 ·split
  ·unfold PA
   split
   ·rename_i Y
    unfold Ou at Y;exact h.step Z X (Bool.and_eq_true_iff.1 Y).2
   ·exact h.up
  ·exact h.cancel.up
theorem arK(z:Int):(Fi c s z).cancelled=s.cancelled:=by
 unfold Fi
 split
 ·rfl
 ·exact ae3 _
end
section
variable {c:CfM}{fold:Bool}{wss:Lb}{text:List Int}{s t:PlM}{i k:Nat}{x:WkM}
theorem ams(Z:Cg c fold wss text):(nbB c text=0∨(nbB c text-1)*c.K<lc text)/\lc text<=nbB c text*c.K:=by
 have h:=λj=>aiB (text:=text) Z.K.1 j
 constructor
 ·by_cases h0:nbB c text=0
  ·exact .inl h0
  ·exact .inr ((h _).1 om)
 ·have:=(h (nbB c text));omega
end
section
variable {c:CfM}{fold:Bool}{wss:Lb}{text:List Int}{s:PlM}{i D LO:Nat}
theorem Pr:(takeW s i).took=s.took:=by unfold takeW;split<;>rfl
theorem Ps:(leaveW s i).took=s.took:=by unfold leaveW;split<;>rfl
theorem as8(k:Nat):lc s.took<=(Bi c s k).took.length/\(s.cancelled=G->(Bi c s k).took=s.took):=by
 have Z:∀t:PlM,t.took=s.took->lc s.took<=lc t.took/\(s.cancelled=G->t.took=s.took):=λt h=>⟨by rw[h];exact AC _,λ_=>h⟩;unfold Bi
 split
 ·refine Z _ ?_;unfold stepR
  split
  ·unfold stopR shutR backR
   split<;>rfl
  ·split
   ·rfl
   ·split
    ·unfold readR;dsimp only
     split
     ·split<;>rfl
     ·rfl
    ·split<;>rfl
 ·split
  ·refine Z _ ?_;unfold stepW
   split
   ·unfold stopW;dsimp only
    repeat' split
    all_goals first|rfl|exact Pr|exact Ps|exact Ps.trans Pr
   ·split
    ·exact Pr
    ·split
     ·rfl
     ·unfold putWM
      split
      ·rfl
      ·rw[Ps]
  ·split
   ·refine Z _ ?_;unfold stepMg takeM flushM Hr
    repeat' split
    all_goals rfl
   ·unfold stepE offerE Fr
    split
    ·refine Z _ ?_
     split<;>rfl
    ·rename_i Y
     split
     ·exact Z _ rfl
     ·split
      ·exact⟨by simp,λe=>absurd e Y⟩
      ·exact Z _ rfl
theorem as0(d z:Int):lc s.took<=(PD c s d z).took.length/\(s.cancelled=G->(PD c s d z).took=s.took):=by
 unfold PD Fi PA LN
 repeat' split
 all_goals first|exact as8 _|exact⟨AC _,λ_=>rfl⟩
theorem as6(d z:Int)(h:(PD c s d z).cancelled=G):(PD c s d z).took=s.took:=by
 cases Z:s.cancelled with
 |true=>exact(as0 d z).2 Z
 |false=>
  unfold PD at h⊢
  by_cases h0:d=0
  ·rw[Lq h0,arK,Z]at h
   cases h
  ·rw[Lc h0]at h⊢
   by_cases h1:d=1
   ·rw[Lq h1]at h;unfold PA at h
    split at h
    ·rw[ae3,Z]at h;cases h
    ·rw[Z]at h;cases h
   ·rw[Lc h1];unfold LN
    split<;>rfl
theorem CQ.pre(h:CQ c fold wss text s)(Z:Cg c fold wss text)(U:s.next<=s.number):∃r,s.took++r=EL fold wss (c.F:Int) text:=by
 have Y:s.next<=nbB c text:=by
  rcases h.nb with e|e
  ·omega
  ·have:=(aiB Z.K.1 _).2 e;omega
 obtain⟨V,e2⟩:=ams Z;have ho:=aoe Z (nbB c text) V e2;have X:List.range (nbB c text)=List.range s.next++((List.range (nbB c text)).drop s.next):=by
  conv=>lhs;rw[<-Dx s.next (List.range (nbB c text))]
  rw[List.take_range,Nat.min_eq_left Y]
 rw[X,List.flatMap_append,<-h.m]at ho;exact⟨s.out++s.left++((List.range (nbB c text)).drop s.next).flatMap (hB c fold wss text),by rw[<-ho];simp only[CE]⟩
theorem CQ.fin(h:CQ c fold wss text s)(Y:Cg c fold wss text)(ho:Fd s=G):s.took=EL fold wss (c.F:Int) text/\s.read=lc text:=by unfold Fd at ho;simp only[Bq,decide_eq_true_eq]at ho;obtain⟨⟨⟨h1,_⟩,h3⟩,h4⟩:=ho;obtain⟨U,V⟩:=h.rd.p4 (.inr h1);have e:=h.m;rw[(h.e2 h4).2,h.m1 om,Cx,Cx,(h.m3 h3).2]at e;refine⟨e.trans (aoe Y s.number h.nb V),?_⟩;have Z:=h.rd.rs;rw[U]at Z;have X:=congrArg List.length Z;simp at X;have:=h.rd.le;omega
end
structure Pn(c:CfM)(fold:Bool)(wss:Lb)(text:List Int)(D L i:Nat)(s:PlM):Prop where
 y:Pi c fold wss text D L i s
 o:∃r,s.took++r=EL fold wss (c.F:Int) text
section
variable {c:CfM}{fold:Bool}{wss:Lb}{text:List Int}{s:PlM}{i D LO:Nat}
theorem Pn.new(hW:1<=c.W)(rs:Lb)(Z:rs.flatten=text)(Y:∀r∈rs,FS r/\lc r<=LO):Pn c fold wss text D LO 0 (Bn c rs):=⟨Pi.new hW rs Z Y,_,rfl⟩
theorem Pn.mov(h:Pn c fold wss text D LO i s)(X:Cg c fold wss text)(V:ML c 400 D)(d z:Int):Pn c fold wss text D LO (i+1) (PD c s d z):=by
 have Z:=h.y.mov X V d z;refine⟨Z,?_⟩
 cases Y:(PD c s d z).cancelled with
 |true=>rw[as6 d z Y];exact h.o
 |false=>exact(Z.x Y).pre X (Z.t.p.n Y).le.1
theorem Pn.fin(h:Pn c fold wss text D LO i s)(Z:Cg c fold wss text)(Y:s.cancelled=M)(ho:Fd s=G):s.took=EL fold wss (c.F:Int) text/\s.read=lc text:=(h.y.x Y).fin Z ho
end
theorem arV(fold:Bool)(wss:Lb)(frm:Int)(text:List Int)(n:Nat):∀m,(Et fold wss frm text n).length<=(Et fold wss frm text (n+m)).length
 |0=>AC _
 |m+1=>by rw[<-Nat.add_assoc,NU,List.length_append];have:=arV fold wss frm text n m;omega
theorem Hts.grow_{w w':Wa}{row:Option Nat}{a:Option Addr}{n:Nat}{l:List AF}(h:Hts w a n l)(Y:w.grownBy w' row)(V:∀g,row=E g->∀q,a=E q->q.block≠g):Hts w' a n l:=by
 refine⟨⟨h.1.1,?_⟩,h.2⟩
 by_cases h0:n=0
 ·exact .inl h0
 ·obtain⟨b,off,e,Z,U⟩:=h.1.2.resolve_left h0;refine .inr ⟨b,off,e,Af Z Y.size,λi u X=>?_⟩;rw[BC (a:=⟨b,off+i,O⟩) (Y.block b Z λe2=>V b e2.symm _ e rfl)];exact U i u X
theorem as7(fold:Bool)(a:Option Addr)(la ca:Nat)(frm:Int)(b:Option Addr)(Y cb:Nat)(text:List Int)(wss:Lb)(w:Wa)(hA:Wds w a la wss)(hX:Bys w b Y text)(b5:Y<=cb)(aF:la<=1000000)(b1:Y<=1000)(hM:∀x∈wss,lc x<=1000000)(U:wss.Nodup)(h0:∀y∈wss,lc y≠0)(C:∀y∈wss,AO fold y=y)(hf:0<=frm/\frm<=4611686018427387904)(hL:(EL fold wss frm text).length<=1000000) :Calls ZP 42 #[i8 (AM fold a la ca),R K frm,T b Y cb] w λe w'=>∃v,e=ra v/\Ax w' w.heap.size v (EL fold wss frm text)/\La w w':=by
 obtain⟨i0,hi,aC,aB,aA⟩:=Vh IG;obtain⟨W,hW⟩:∃W,W=w.alloc (i7 (AM fold a la ca) 24):=⟨_,rfl⟩;have hB:La w W:=by rw[hW];exact AL _ _
 have hO:Bx w.heap.size [i7 (AM fold a la ca) 24] W:=by rw[hW];exact(Bx.nil _ w).snoc _ rfl
 have HS:Hid (∀V,La W V->V.cell? ⟨w.heap.size,0,O⟩=E (i6 fold)/\V.cell? ⟨w.heap.size,1,O⟩=E (T a la ca)):=λV I=>by have h:=hO.below I;exact⟨h.cell (i:=0) rfl rfl,h.cell (i:=0) rfl rfl⟩
 have a8:lc text=Y:=hX.len;have aD:=hA.len;have HR:Hid (∀e:Nat,e<=Y->Et fold wss frm text (e+1)=Et fold wss frm text e++(DF wss (AO fold (text.take e))).map λv=>(frm+e,v)):=λe he=>by rw[NU,agq U h0 C frm text om]
 have ay:Hid (∀e:Nat,e<=Y+1->(Et fold wss frm text e).length<=1000000):=λe he=>by obtain⟨m,hm⟩:∃m,Y+1=e+m:=⟨Y+1-e,by omega⟩;have h:=arV fold wss frm text e m;rw[<-hm,<-a8]at h;exact AS h hL
 have HE:Hid (∀(e:Nat) V,e<=Y->La W V->Calls ZP 78 #[i8 #[i6 fold,T a la ca],T b e cb] V λr w'=>∃(H:Option Addr)(c1:Nat),r=ra (T H (DF wss (AO fold (text.take e))).length c1)/\Hts w' H (DF wss (AO fold (text.take e))).length ((DF wss (AO fold (text.take e))).map λx=>((e:Int),x))/\(∀q,H=E q->V.heap.size<=q.block)/\La V w'):=λe V he I=>by
  have ap:=hB.trans (I.mono hB.size);refine(arX fold a la ca b e cb (text.take e) wss V (hA.below ap) ((hX.below ap).take he) om aF om hM U C).mono ?_;rintro r w' ⟨v,rfl,h1,h2⟩;obtain⟨H,c1,rfl,hc,hs⟩:=h1.hts (λx hx=>by obtain⟨y,hy,rfl⟩:=Be.1 hx;obtain⟨k,z,hk,_,rfl⟩:=(KY U h0).1 hy;have:=(AP.1 hk).1;exact⟨by unfold I64;omega,by unfold I64;omega⟩)
  have hq:∀q,H=E q->V.heap.size<=q.block:=λq hq=>(h1.lt q.block (by rw[hq];rfl)).1;rw[BP]at hs⊢;exact⟨H,c1,rfl,hs,hq,h2⟩
 have aU:Hid (Et fold wss frm text 1=[]):=by
  rw[Hid,NU,agq U h0 C frm text (AR _)];have e:AO fold []=[]:=by rw[Fg];rfl
  simp[Et,e,DF]
 have aS:Hid (EL fold wss frm text=Et fold wss frm text (Y+1)):=by rw[Hid,<-a8];rfl
 have HB:=AA hB;have aR:Hid (∀e:Nat,e<=Y->(DF wss (AO fold (text.take e))).length<=1000000):=λe he=>by have h1:=HR.out e he;have h2:=ay.out (e+1) om;rw[h1,List.length_append,BP]at h2;omega
 clear hA hX hM U h0 C hL hO hB aD a8;go_enter func42,ntmps42;go_upto_region 1 with fail
 rw[<-hW];clear hW;go_upto_region 3 with fail
 go_loopw[7,8] (λs7 s8 wr=>∃(e:Nat)(v7:Vk),v7=s7/\1<=e/\e<=Y+1/\s8=R K e/\Hid (La W wr)/\Hid (Ax wr W.heap.size s7 (Et fold wss frm text e))) (λ_ s8 _=>Y+1-(intOf s8).toNat)
 case atStart=>exact⟨1,_,rfl,AC _,by omega,rfl,.refl _ _,by rw[Hid,aU.out];exact BN W W.heap.size 116 2⟩
 case round=>
  obtain⟨e,v7,rfl,b4,b3,rfl,Z,ae⟩:=hrel
  by_cases aa:e<=Y
  ·have hd:decide ((e:Int)<=(Y:Int))=G:=by simp;omega
   have aK:decide (e<=Y)=G:=by simp;omega
   have i1:(0:Int)<=(e:Int):=by omega
   have i2:(e:Int)<=(cb:Int):=by omega
   have i3:e<=cb:=by omega
   go_upto_region 5 with fail
   obtain⟨D,hD⟩:∃D,D=wr.drew:=⟨_,rfl⟩;have B:La wr D:=by rw[hD];exact AN wr 1
   have a2:=AA (Z.out.trans (B.mono Z.out.size));have HD:=AA B;have af:=AA (DJ ae.out B);have KE:=AA (HE.out e D aa a2.out);clear B;refine Ve ?_;refine Vd (S:=La wr) kr (by rw[<-hD];exact HD.out) (λhHeld=>?_);rw[<-hD];clear hD hHeld;refine tkW 0 (v:=?_) ?_ ?_;rotate_left
   ·intro V I;obtain⟨g0,g1⟩:=HS.out V (Z.out.trans (I.mono Z.out.size))
    first|(go_simp;done)|(go_simp;with_reducible rfl)
   try simp only[pq]
   refine tkW 1 (v:=?_) ?_ ?_;rotate_left
   ·intro V I;obtain⟨g0,g1⟩:=HS.out V (Z.out.trans (I.mono Z.out.size))
    first|(go_simp;done)|(go_simp;with_reducible rfl)
   try simp only[pq]
   refine tkW 2 (v:=?_) ?_ ?_;rotate_left
   ·intro V I;obtain⟨g0,g1⟩:=HS.out V (Z.out.trans (I.mono Z.out.size))
    first|(go_simp;done)|(go_simp;with_reducible rfl)
   try simp only[pq]
   refine tkW 3 (v:=?_) ?_ ?_;rotate_left
   ·intro V I;obtain⟨g0,g1⟩:=HS.out V (Z.out.trans (I.mono Z.out.size))
    first|(go_simp;done)|(go_simp;with_reducible rfl)
   try simp only[pq]
   refine rdy 4 (λKB hK=>?_);go_simp
   go_at_call 78;refine KE.out.mono ?_;rintro r w2 ⟨H,c1,rfl,ak,al,A⟩
   refine hK.out _ _ (HD.out.trans (A.mono HD.out.size)) (λb6=>?_);clear hK KB
   try simp only[pq]
   refine tkA 5 ?_;refine Vg kr ?_ _;refine At ?_;have az:=AA (a2.out.trans (A.mono a2.out.size));have ag:=AA (DJ af.out A);have av:Hid (∀g,v7.ownBlock=E g->∀q,H=E q->q.block≠g):=λg hg q hq e=>by have h1:=(af.out.lt g hg).2;have h2:=al q hq;omega
   have s:=AA ak;clear af a2 HD ak A KE al Z ae;have ac:=AA (HR.out e aa);obtain⟨LO,hL⟩:∃LO,Et fold wss frm text e=LO:=⟨_,rfl⟩;obtain⟨S,hS⟩:∃S,DF wss (AO fold (text.take e))=S:=⟨_,rfl⟩;obtain⟨N,hN⟩:∃N,lc S=N:=⟨_,rfl⟩;have ao:=aR.out e aa;have aE:=ay.out (e+1) om;rw[ac.out,hL,hS,List.length_append,BP,hN]at aE;rw[hS]at ao s;rw[hN]at ao s;rw[hL]at ag;rw[hL,hS]at ac;rw[hS,hN];have ax:=AA hN;clear hL hS hN;go_upto_region 7 with fail
   go_loopw[7,10] (λs7 a6 wq=>∃(k:Nat)(v7:Vk),v7=s7/\k<=N/\a6=R K k/\Hid (La W wq)/\Hid (Hts wq H N (S.map λx=>((e:Int),x)))/\Hid (Ax wq W.heap.size s7 (LO++((S.take k).map λv=>(frm+e,v))))/\Hid (∀g,s7.ownBlock=E g->∀q,H=E q->q.block≠g)) (λ_ a6 _=>N-(intOf a6).toNat)
   case atStart=>exact⟨0,_,rfl,AR _,rfl,az,s,by rw[Hid,List.take_zero,DE,Cx];exact ag.out,av⟩
   case round=>
    clear az s ag av;obtain⟨k,v7,rfl,hk,rfl,ai,ar,aw,au⟩:=hrel
    by_cases aG:k<N
    ·have aJ:decide ((k:Int)<(N:Int))=G:=by simp;omega
     have aW:decide (k<N)=G:=by simp;omega
     obtain⟨b0,o0,x,e0,b2,aq,aQ,hx,aI,aH⟩:=ar.out.at_ aG;have aj:S[k]?=E x.2:=by rw[BU]at hx;obtain⟨y,hy,rfl⟩:=Fo.1 hx;exact hy
     subst e0;have HX:=AA aj;have j1:(0:Int)<=(k:Int):=by omega
     have j2:(k:Int)<(N:Int):=by omega
     have aX:IntKind.i64.wrap (frm+(e:Int))=frm+(e:Int):=by rw[BK];omega
     obtain⟨xe,xw⟩:=x;dsimp only at aq aQ HX aH;obtain⟨m,hm⟩:∃m,(LO++((S.take k).map λv=>(frm+(e:Int),v))).length=m:=⟨_,rfl⟩;have aZ:m=lc LO+k:=by rw[<-hm,List.length_append,BP,Ag,ax.out];omega
     have X:=aw.out;unfold Ax at X;rw[hm]at X;have aV:=AA hm;have aY:=ai.out.size;have am:Hid (SlK 2 (wr.alloc (i7 #[R K (frm+(e:Int)),R K xw] 116)) (E ⟨wr.heap.size,0,O⟩) 1 [R K (frm+(e:Int)),R K xw]):=⟨rfl,.inr ⟨wr.heap.size,0,rfl,by simp,λi u hu=>by
      have:=GI (w:=wr) #[R K (frm+(e:Int)),R K xw] 116 rfl i u hu
      rwa[Cf]at this⟩⟩
     have aP:m+1<=maxLen:=by unfold maxLen;omega
     have aL:(m+1)*16<=140737488355328:=by omega
     have aM:W.heap.size<=(wr.alloc (i7 #[R K (frm+(e:Int)),R K xw] 116)).heap.size:=by simp;omega
     clear hm hx aj aq aI
     go_wp2_with (at_builtin;refine JA rfl _ _ 69 rfl W.heap.size 116 i0 (i8 #[.int .i64 0,.int .i64 0]) 2 16 underlying69 hi aC aB aA rfl (by decide) v7 m _ rfl (X.alloc _) (E ⟨wr.heap.size,0,O⟩) 1 1 _ rfl am.out (by simp[Value.oneCell']) aP aL aM ?_;intro v' w5 a7 J aN)
     have aO:La W w5:=(ai.out.alloc om _).grown J (by simp;omega) (λj hj=>(X.lt j hj).1)
     go_roundw
     case rel=>
      refine⟨k+1,_,rfl,by omega,by go_num,aO,?_,?_,?_⟩
      ·exact(ar.out.below (AL wr _)).grow_ J au.out
      ·rw[Hid,As HX.out,Aj];unfold Ax;rw[<-CE,List.length_append,aV.out];show w5.ownsRow W.heap.size 116 2 v' (m+1) (AV ((LO++((S.take k).map λv=>(frm+(e:Int),v)))++[(frm+(e:Int),xw)]));rw[afo];exact a7
      ·intro g hg q hq
       rcases aN with e1|e1
       ·exact au.out g (by rw[<-e1];exact hg) q hq
       ·rw[e1]at hg;obtain rfl:=AK hg
        cases hq
        simp;omega
     case measure=>simp[intOf];omega
    ·obtain rfl:k=N:=by omega
     have aJ:decide ((k:Int)<(k:Int))=M:=by simp
     have ab:=aw.out;rw[show S.take k=S by rw[<-ax.out,Hl],<-ac.out]at ab;have aT:=AA ab;clear ab
     go_wp2_with fail
     go_roundw
     case rel=>exact⟨e+1,_,rfl,by omega,by omega,by go_num,ai,aT⟩
     case measure=>simp[intOf];omega
  ·obtain rfl:e=Y+1:=by omega
   have hd:decide (((Y+1:Nat):Int)<=(Y:Int))=M:=by simp;omega
   have aK:decide ((Y:Int)+1<=(Y:Int))=M:=by simp;omega
   go_wp2;go_ret;refine⟨_,rfl,?_,HB.out.trans (Z.out.mono HB.out.size)⟩;rw[aS.out];exact Go.Joins.ownsRow_le ae.out HB.out.size
section
variable {A:PAd}{c:CfM}{s s':PlM}{o:Nat->Nat}{F:Nat->Prop}{w w':Wa}
def One(A:PAd)(c:CfM)(F:Nat->Prop)(s:PlM)(w:Wa):Prop:=∃o,AI A c o s w/\∀k,F k->k<w.heap.size/\o k=1000000
theorem One.more{Gf:Nat->Prop}(h:One A c F s w)(V:La w w')(U:∀k,Gf k->F k∨w.heap.size<=k/\k<w'.heap.size):One A c Gf s w':=by
 obtain⟨o,h1,h3⟩:=h;have Y:Chg (λ_=>False) w w':=.of_same V;refine⟨o,h1.far Y λ_ _ e=>e.elim,λk hk=>?_⟩
 rcases U k hk with Z|⟨Z,X⟩
 ·exact⟨Af (h3 k Z).1 Y.size,(h3 k Z).2⟩
 ·exact⟨X,h1.out k Z⟩
theorem One.same(h:One A c F s w)(Z:La w w'):One A c F s w':=h.more Z λk hk=>.inl hk
theorem One.mk{b:Nat}(h1:AI A c o s w)(Y:b<=w.heap.size)(Z:∀k,k<b->o k=1000000):One A c (λk=>k<b) s w:=⟨o,h1,λk hk=>⟨Af hk Y,Z k hk⟩⟩
theorem AE.one(h:AE A c o s' w w')(ha:∀k,F k->k<w.heap.size/\o k=1000000):One A c F s' w'/\Chg (λk=>¬F k) w w':=by obtain⟨Z,h1,h2,h3⟩:=h;exact⟨⟨Z,h1,λk hk=>⟨Af (ha k hk).1 h3.c.size,h3.f k (ha k hk).1 (ha k hk).2⟩⟩,h3.c.mono λk _ e Y=>e.2 (ha k Y).2⟩
theorem One.call(h:One A c F s w){f:FuncId}{args:Array Vk}{Ra:Ending->Wa->Prop}(k:∀o,AI A c o s w->Calls ZP f args w λe w'=>Ra e w'/\AE A c o s' w w') :Calls ZP f args w λe w'=>Ra e w'/\One A c F s' w'/\Chg (λk=>¬F k) w w':=by obtain⟨o,h1,h3⟩:=h;refine(k o h1).mono ?_;rintro e w' ⟨Z,Y⟩;exact⟨Z,Y.one h3⟩
theorem One.calm(h:One A c F s w){f:FuncId}{args:Array Vk}{Ra:Ending->Wa->Prop}(k:∀o,AI A c o s w->Calls ZP f args w λe w'=>Ra e w'/\La w w') :Calls ZP f args w λe w'=>Ra e w'/\One A c F s w'/\La w w':=by have h0:=h;obtain⟨o,h1,h3⟩:=h;refine(k o h1).mono ?_;rintro e w' ⟨Y,Z⟩;exact⟨Y,h0.same Z,Z⟩
theorem One.moves(h:One A c F s w)(Z:OkC c)(ok:OkM c s)(x y:Int) :Calls ZP 31 #[L (E ⟨A.P,0,O⟩),i8 #[R K x,R K y]] w λe w'=>e=ra (PM c s x y)/\One A c F (PD c s x y) w'/\Chg (λk=>¬F k) w w':=h.call λo h1=>aqj w h1 Z ok x y
theorem One.over(h:One A c F s w)(Z:OkC c)(ok:OkM c s) :Calls ZP 16 #[L (E ⟨A.P,0,O⟩)] w λe w'=>e=ra (i6 (Fd s))/\One A c F s w'/\La w w':=h.calm λo h1=>ahx w h1 Z ok.wl
theorem One.took(h:One A c F s w)(ok:OkM c s) :Calls ZP 41 #[L (E ⟨A.P,0,O⟩)] w λe w'=>(∃v,e=ra v/\Ax w' w.heap.size v s.took)/\One A c F s w'/\La w w':=h.calm λo h1=>(aqr w w h1.g ok.tol2).mono λe w' ⟨v,h2,h3,h4⟩=>⟨⟨v,h2,h3⟩,h4⟩
theorem One.view(h:One A c F s w)(Y:OkC c)(ok:OkM c s)(X:EE c s) :Calls ZP 34 #[L (E ⟨A.P,0,O⟩)] w λe w'=>(∃v0 v3 v4 Z,e=ra (i8 (vwC v0 v3 v4 Z (Br c s)))/\VwS w' w.heap.size v0 v3 v4 Z (Br c s))/\One A c F s w'/\La w w':=h.calm λo h1=>(aqY w h1 Y ok X).mono λe w' ⟨v0,v3,v4,Z,h2,h3,h4⟩=>⟨⟨v0,v3,v4,Z,h2,h3⟩,h4⟩
end
end Go.Proofs.YtaamacoicojhnaaGreat
