/- Proofs over the given program, part 8. -/
import Derived.Test.YtaamacoicojhnaaGreatZH7
set_option linter.unusedVariables false
set_option linter.unusedSimpArgs false
set_option maxRecDepth 100000
set_option maxHeartbeats 16000000
open Go.Proofs.Tryz
open Go.Proofs.Tryz renaming prog→ZP
open Go.World(cell? frozen?)
open Option renaming some→E,none→O
open Go.Value renaming int→R,slice→T,pointer→L,bool→i6,tuple→ta,agg→i8
open Go.IntKind renaming i64→K
open Bool renaming false→M,true→G
open Go renaming World→Wa,Value→Vh
open Go.Ending renaming returned→ra
open Go.Obj renaming cells→i7
open List renaming length→lc
namespace Go.Proofs.YtaamacoicojhnaaGreat
open Go.RowKit Go.Sort
section
attribute[local go_sem] IW NY
theorem aek{next:Nat}{l:List AF}{r:List (Option (List AF))}:∀j,∃t,Ga next (E l::r) (j+1)=next::t
 |0=>⟨[],by simp[Ga]⟩
 |j+1=>by obtain⟨t,Z⟩:=aek (next:=next) (l:=l) (r:=r) j;rw[Ga,Z];exact⟨t++_,rfl⟩
theorem aeS{next:Nat}{rg:List (Option (List AF))}(h:∀l,rg[0]?≠E (E l)):∀j x,x∈Ga next rg j->next<x
 |0,x,hx=>by cases hx
 |j+1,x,hx=>by
  rw[Ga]at hx
  rcases Bf.1 hx with h1|h1
  ·exact aeS h j x h1
  ·revert h1
   cases Z:rg[j]? with
   |none=>intro h1;simp at h1
   |some y=>
    cases y with
    |none=>intro h1;simp at h1
    |some l=>
     intro h1;simp at h1;have:j≠0:=λe=>h l (by rw[<-e];exact Z);omega
def Kj(rg:List (Option (List AF))):Bool:=match rg with|some _::_=>G|_=>M
theorem agc(s:PlM):Gt s=(Kj s.rg || (decide (s.rd.ph=5)&&decide (s.next=s.number))):=by
 unfold Gt Kj
 cases s.rg with
 |nil=>rfl
 |cons y t=>cases y<;>rfl
theorem ac3{A:PAd}{c:CfM}{s:PlM}{o:Nat->Nat}(w:Wa)(h:AI A c o s w)(hx:s.next<=1000000000)(hR:1<=c.R)(hg:lc s.rg=c.R) :Calls ZP 153 #[L (E ⟨A.M,0,O⟩)] w λe w'=>e=ra (i6 (Gt s))/\Bt w w':=by
 have hk:∀V,Bt w V->V.cell? ⟨A.M,0,O⟩=E (L (E ⟨A.P,0,O⟩))/\V.cell? ⟨A.P,13,O⟩=E (L (E ⟨A.G,0,O⟩))/\V.cell? ⟨A.P,15,O⟩=E (T (E ⟨A.TT,0,O⟩) (c.W+3) A.tc)/\V.cell? ⟨A.TT,0,O⟩=E (.iface (tyT c 0) (L (E ⟨A.R,0,O⟩)))/\V.cell? ⟨A.P,16,O⟩=E (R K (s.number:Int)):=λV hV=>by have h2:=h.bel hV;exact⟨(h2.tcM).c0,h2.g.ceP 13 _ λ_=>rfl,h2.g.ceP 15 _ λ_=>rfl,h2.task 0 om,h2.g.ceP 16 _ λ_=>rfl⟩
 have a6:=AA (aoh h);have H:=AA (ap0 h hx);have a7:∀V,Bt w V->Calls ZP 319 #[L (E ⟨A.R,0,O⟩)] V λe w'=>e=ra (i6 (decide (s.rd.ph=5)))/\Bt V w':=λV hV=>by
  have h2:=(h.bel hV).tcR;have:=NS A.R s.rd.ph 5 V h2.c1 h2.c2;have e:decide ((s.rd.ph:Int)=((5:Nat):Int))=decide (s.rd.ph=5):=by rw[Db];simp;omega
  rw[<-e];exact this
 have J:=AA a7;have HK:=AA hk;obtain⟨k0,av,_,_,_⟩:=hk w (AH _ _);have ap:=λ(Ta:Nat)=>NY (tyT c 0) (Jv c 0);obtain⟨ty,C⟩:∃ty,tyT c 0=ty:=⟨_,rfl⟩;have ax:∀n Ta w,Sem.run ZP (method (n+1) ty (L (E ⟨Ta,0,O⟩)) "teasel/pool.over") w=.ok (319,L (E ⟨Ta,0,O⟩)) w:=λn Ta w=>by rw[<-C];exact NY _ (Jv c 0) n Ta w
 rw[C]at HK;obtain⟨nx,I⟩:∃x,s.next=x:=⟨_,rfl⟩;obtain⟨nb,j⟩:∃x,s.number=x:=⟨_,rfl⟩;obtain⟨LO,hL⟩:∃x,Ga s.next s.rg c.R=x:=⟨_,rfl⟩;rw[hL]at H;rw[I]at a6;rw[j]at HK;have a1:Kj s.rg=decide (LO.head?=E nx)/\∀x∈LO.head?,x=nx∨nx<x:=by
  obtain⟨r,hr⟩:∃r,c.R=r+1:=⟨c.R-1,by omega⟩;rw[<-hL,<-I,hr]
  cases ao:s.rg with
  |nil=>rw[ao]at hg;simp at hg;omega
  |cons y r2=>
   cases y with
   |some l=>
    obtain⟨t,ht⟩:=aek (next:=s.next) (l:=l) (r:=r2) r;rw[ht];simp[Kj]
   |none=>
    have hn:=aeS (next:=s.next) (rg:=O::r2) (λl=>by simp) (r+1)
    cases hc:Ga s.next (O::r2) (r+1)with
    |nil=>simp[Kj]
    |cons x t=>
     have:=hn x (by rw[hc];simp);refine⟨?_,λz hz=>?_⟩
     ·simp[Kj];omega
     ·simp at hz;omega
 have B:Gt s=(decide (LO.head?=E nx) || (decide (s.rd.ph=5)&&decide (nx=nb))):=by rw[agc,a1.1,I,j]
 obtain⟨B5,ad⟩:∃b,decide (s.rd.ph=5)=b:=⟨_,rfl⟩;rw[ad]at B J;rw[B];have D:=a1.2;clear a1 B ad I j hL h hx hR hg hk a7 ap C;have e5:((nx:Int)==(nb:Int))=decide (nx=nb):=by rw[Db];simp;omega
 have e6:decide ((nx:Int)=(nb:Int))=decide (nx=nb):=by rw[Db];simp;omega
 obtain⟨B6,ar⟩:∃b,decide (nx=nb)=b:=⟨_,rfl⟩;rw[ar]at e5 e6⊢
 cases ab:LO with
 |nil=>
  subst ab;go_enter func153,ntmps153;go_upto_region 4 with(first|(go_at_call 66;refine a6.out.mono ?_;rintro e w1 ⟨rfl,rfl⟩)|(go_at_call 67;refine H.out.mono ?_;rintro e w2 ⟨v2,rfl,a8,U⟩;obtain⟨a2,c2,rfl,_,X,_⟩:=Gy a8;have Z:=AA U;obtain⟨j0,ai,ag,jT,af⟩:=HK.out _ U;clear U a8 X))
  cases B5 with
  |false=>
   go_wp2_with (go_at_call 319;refine(J.out _ Z.out).mono ?_;rintro e w3 ⟨rfl,Y⟩;have N:=AA Y;clear Y)
   go_ret;exact⟨by simp,Z.out.trans (N.out.mono Z.out.size)⟩
  |true=>
   go_wp2_with (go_at_call 319;refine(J.out _ Z.out).mono ?_;rintro e w3 ⟨rfl,Y⟩;have N:=AA Y;obtain⟨i0,al,ak,iT,aj⟩:=HK.out _ (Z.out.trans (Y.mono Z.out.size));clear Y)
   go_ret;exact⟨by simp,Z.out.trans (N.out.mono Z.out.size)⟩
 |cons x t=>
  subst ab;obtain⟨n,hn⟩:∃n,((x::t).map λx:Nat=>(x:Int)).length=n:=⟨_,rfl⟩;have aw:0<n:=by rw[<-hn];simp
  have d0:decide ((n:Int) > 0)=G:=by simp;omega
  have d1:decide (0<n)=G:=by simp;omega
  have i0:(0:Int)<(n:Int):=by omega
  have hx:=D x sm;have e7:((x:Int)==(nx:Int))=decide (x=nx):=by rw[Db];simp;omega
  have e8:decide ((x:Int)=(nx:Int))=decide (x=nx):=by rw[Db];simp;omega
  have e9:decide ((x::t).head?=E nx)=decide (x=nx):=by simp
  rw[e9];obtain⟨B7,ac⟩:∃b,decide (x=nx)=b:=⟨_,rfl⟩;rw[ac]at e7 e8⊢;have au:Hid (Calls ZP 67 #[L (E ⟨A.G,0,O⟩)] w λe w'=>∃a cc,e=ra (T a n cc)/\SlK 1 w' a n (((x::t).map λx:Nat=>(x:Int)).map (R K))/\Bt w w'):=H.out.mono λe w' ⟨v,h1,h2,h3⟩=>by obtain⟨a,cc,rfl,_,h4,_⟩:=Gy h2;rw[hn]at h1 h4;exact⟨a,cc,h1,h4,h3⟩
  clear D hx ac hn H;go_enter func153,ntmps153;go_upto_region 4 with(first|(go_at_call 66;refine a6.out.mono ?_;rintro e w1 ⟨rfl,rfl⟩)|(go_at_call 67;refine au.out.mono ?_;rintro e w2 ⟨a2,c2,rfl,X,U⟩;have Z:=AA U;have ae:=AA X;obtain⟨j0,ai,ag,jT,af⟩:=HK.out _ U;clear U X))
  have X:=ae.out;obtain⟨bb,oo,rfl,aq,aa⟩:=X.2.resolve_left om;have am:=aa 0 (R K (x:Int)) sm;rw[DQ]at am;clear X aq aa ae
  cases B7 with
  |true=>
   go_wp2;go_ret;exact⟨by simp,Z.out⟩
  |false=>
   cases B5 with
   |false=>
    go_wp2_with (go_at_call 319;refine(J.out _ Z.out).mono ?_;rintro e w3 ⟨rfl,Y⟩;have N:=AA Y;clear Y)
    go_ret;exact⟨by simp,Z.out.trans (N.out.mono Z.out.size)⟩
   |true=>
    go_wp2_with (go_at_call 319;refine(J.out _ Z.out).mono ?_;rintro e w3 ⟨rfl,Y⟩;have N:=AA Y;obtain⟨i0,al,ak,iT,aj⟩:=HK.out _ (Z.out.trans (Y.mono Z.out.size));clear Y)
    go_ret;exact⟨by simp,Z.out.trans (N.out.mono Z.out.size)⟩
end
structure OkC(c:CfM):Prop where
 W:1<=c.W/\c.W<=8
 K:1<=c.K/\c.K<=256
 R:1<=c.R/\c.R<=16
 Q:1<=c.Q/\c.Q<=16
 O:1<=c.O/\c.O<=16
 S:1<=c.S/\c.S<=256
 F:c.F<=4611686018427387904
 wm:c.wm<=1000
structure OkM(c:CfM)(s:PlM):Prop where
 wl:s.wk.length=c.W
 gl:s.rg.length=c.R
 frl:s.fr.length<=100000
 frr:∀x∈s.fr,x<s.us.length
 dl:s.ds.length=s.us.length
 num:s.number<=1000000000
 nxt:s.next<=1000000000
 rdl:s.read<=100000000
 tol:s.told<=100000000
 rsl:∀x∈s.rs,x.length<=1000000
 tal:s.rd.tail.length<=c.wm
 ofl:s.off<=1000000
 tkl:s.tk.length<=1000000
 tol2:s.took.length<=1000000
 oul:s.out.length<=1000000
 rph:1<=s.rd.ph/\s.rd.ph<=5
 fah:c.F+s.rd.ahead<=4611686018428387904
 tak:s.rd.ph=1->s.cancelled=false->Du s.next c.R s.number=true->s.fr≠[]
 buf:(s.rd.ph=2∨s.rd.ph=3)->∃x0,s.us[s.rd.buf]?=some true/\s.ds[s.rd.buf]?=some x0/\x0.length=s.rd.warm+s.rd.own/\s.rd.own<=c.K/\s.rd.warm<=c.wm/\∀x∈x0,0<=x/\x<=255
 shu:s.rd.ph≠5->s.shut=false
 wkp:∀(i:Nat)(x:WkM),s.wk[i]?=some x->1<=x.ph/\x.ph<=4/\x.blk.data.length<=900000/\(x.ph=2->x.hits.length+(c.scan x.blk.start x.blk.warm x.blk.data x.node x.done).2.2.1.length<=1000000)
 wpu:∀(i:Nat)(x:WkM),s.wk[i]?=some x->x.ph=3->s.cancelled=false->s.next<=x.blk.num/\x.blk.num-s.next<c.R/\s.rg[x.blk.num-s.next]?=some none/\x.blk.num<=1000000000
 mgp:1<=s.mph/\s.mph<=3
 mgl:s.mph=2->s.cancelled=false->s.left≠[]
 end_:s.mph≠3->s.ended=false
 emp:1<=s.eph/\s.eph<=2
section
variable {A:PAd}{c:CfM}{s:PlM}{o:Nat->Nat}{w W:Wa}
theorem FQ{P Ta at_ Z mp:Nat}{sc sd:Vh}{X:Bool}{f:Nat->Option Vh}{Y U:Nat}{bc N:Array Vh}{b:Bool}(w:Wa)(C:GL P Ta at_ Z mp sc sd w)(B:w.cell? ⟨P,19,O⟩=E (i6 X))(H:at_≠Z)(I:ES w mp f)(D:X=M->f at_=E (i8 #[.func (.func Y) bc #[],.func (.func U) N #[]]))(J:X=G->sc=.func (.func Y) bc #[]/\sd=.func (.func U) N #[])
  (v:∀args w,(callFunc Y args).run ZP w=.ok (.enter Y args) w) (y:∀V,Bt w V->Calls ZP Y bc V λe w'=>e=ra (i6 b)/\Bt V w') :
  Calls ZP 321 #[L (E ⟨Ta,0,O⟩)] w λe w'=>e=ra (i6 b)/\Bt w w':=
 adH w (abj w C B H I D J) v y
theorem FO{P Ta at_ Z mp:Nat}{sc sd:Vh}{X:Bool}{f:Nat->Option Vh}{N Y:Nat}{bc U:Array Vh}{Q:Wa->Prop}(w:Wa)(C:GL P Ta at_ Z mp sc sd w)(B:w.cell? ⟨P,19,O⟩=E (i6 X))(H:at_≠Z)(I:ES w mp f)(D:X=M->f at_=E (i8 #[.func (.func N) bc #[],.func (.func Y) U #[]]))(J:X=G->sc=.func (.func N) bc #[]/\sd=.func (.func Y) U #[])
  (v:∀args w,(callFunc Y args).run ZP w=.ok (.enter Y args) w) (y:∀V,Bt w V->Calls ZP Y U V λe w'=>e=ra (ta #[])/\Q w') :
  Calls ZP 322 #[L (E ⟨Ta,0,O⟩)] w λe w'=>e=ra (ta #[])/\Q w':=
 afd w (abj w C B H I D J) v y
theorem Kw(w:Wa):∀V,Bt w V->Calls ZP 141 #[] V λe w'=>e=ra (i6 G)/\Bt V w':=λV _=>(acV V).mono λe w' ⟨h1,h2⟩=>⟨h1,by rw[h2];exact AH _ _⟩
theorem Kv:∀args w,(callFunc 141 args).run ZP w=.ok (.enter 141 args) w:=Vg func141 kr rfl
theorem ahn(w:Wa)(h:AI A c o s w)(ok:OkM c s):Calls ZP 321 #[L (E ⟨A.R,0,O⟩)] w λe w'=>e=ra (i6 (Ck c s))/\Bt w w':=by
 unfold Ck
 by_cases h5:s.rd.ph=5
 ·rw[Lc h5];exact NJ w (NX w h.tcR h5)
 ·rw[Lb h5]
  cases Z:s.cancelled with
  |true=>
   rw[Lc rfl];exact FQ w h.tcR h.can h5 h.p0.mR.1 (λe=>by rw[Z]at e;cases e) (λ_=>⟨rfl,rfl⟩) Kv (Kw w)
  |false=>
   rw[Lb sm];have X:=ok.rph
   rcases(by omega:s.rd.ph=1∨s.rd.ph=2∨s.rd.ph=3∨s.rd.ph=4)with e|e|e|e
   ·rw[Lc e];exact FQ w h.tcR h.can h5 h.p0.mR.1 (λ_=>by rw[e];rfl) (λe=>by rw[Z]at e;cases e) (Vg func139 kr rfl) λV Y=>abw V (h.bel Y) ok.num ok.nxt
   ·rw[Lb om,Lb om];exact FQ w h.tcR h.can h5 h.p0.mR.1 (λ_=>by rw[e];rfl) (λe=>by rw[Z]at e;cases e) Kv (Kw w)
   ·rw[Lb om,Lc e];exact FQ w h.tcR h.can h5 h.p0.mR.1 (λ_=>by rw[e];rfl) (λe=>by rw[Z]at e;cases e) (Vg func143 kr rfl) λV Y=>afJ V (h.bel Y)
   ·rw[Lb om,Lb om];exact FQ w h.tcR h.can h5 h.p0.mR.1 (λ_=>by rw[e];rfl) (λe=>by rw[Z]at e;cases e) Kv (Kw w)
theorem agZ(w:Wa)(h:AI A c o s w)(ok:OkM c s){i:Nat}{x:WkM}(Z:s.wk[i]?=E x)(Y:i<c.W)(hW:c.W<=8):Calls ZP 321 #[L (E ⟨A.Wk i,0,O⟩)] w λe w'=>e=ra (i6 (Er s i))/\Bt w w':=by
 have N:Er s i=if x.ph=4 then M else if x.ph=1 then Ep s else G:=by unfold Er;rw[Z]
 rw[N]
 by_cases h5:x.ph=4
 ·rw[Lc h5];exact NJ w (NX w (h.tcW Z om) h5)
 ·rw[Lb h5]
  cases X:s.cancelled with
  |true=>
   exact FQ w (h.tcW Z om) h.can h5 (h.p0.mW i Y).1 (λe=>by rw[X]at e;cases e) (λ_=>⟨rfl,rfl⟩) (Vg func151 kr rfl) λV U=>ae8 V (h.bel U) Z om
  |false=>
   have J:=ok.wkp i x Z
   rcases(by omega:x.ph=1∨x.ph=2∨x.ph=3)with e|e|e
   ·rw[Lc e];exact FQ w (h.tcW Z om) h.can h5 (h.p0.mW i Y).1 (λ_=>by rw[e];rfl) (λe=>by rw[X]at e;cases e) (Vg func147 kr rfl) λV U=>aam V (h.bel U) Z om
   ·rw[Lb om];exact FQ w (h.tcW Z om) h.can h5 (h.p0.mW i Y).1 (λ_=>by rw[e];rfl) (λe=>by rw[X]at e;cases e) Kv (Kw w)
   ·rw[Lb om];exact FQ w (h.tcW Z om) h.can h5 (h.p0.mW i Y).1 (λ_=>by rw[e];rfl) (λe=>by rw[X]at e;cases e) Kv (Kw w)
theorem aia(w:Wa)(h:AI A c o s w)(ok:OkM c s)(X:1<=c.R):Calls ZP 321 #[L (E ⟨A.M,0,O⟩)] w λe w'=>e=ra (i6 (EX c s))/\Bt w w':=by
 unfold EX
 by_cases h5:s.mph=3
 ·rw[Lc h5];exact NJ w (NX w h.tcM h5)
 ·rw[Lb h5]
  cases Z:s.cancelled with
  |true=>
   rw[Lc rfl];exact FQ w h.tcM h.can h5 h.p0.mM.1 (λe=>by rw[Z]at e;cases e) (λ_=>⟨rfl,rfl⟩) Kv (Kw w)
  |false=>
   rw[Lb sm];have U:=ok.mgp
   rcases(by omega:s.mph=1∨s.mph=2)with e|e
   ·rw[Lc e];exact FQ w h.tcM h.can h5 h.p0.mM.1 (λ_=>by rw[e];rfl) (λe=>by rw[Z]at e;cases e) (Vg func153 kr rfl) λV Y=>ac3 V (h.bel Y) ok.nxt X ok.gl
   ·rw[Lb om];exact FQ w h.tcM h.can h5 h.p0.mM.1 (λ_=>by rw[e];rfl) (λe=>by rw[Z]at e;cases e) (Vg func155 kr rfl) λV Y=>aej V (h.bel Y)
theorem ah8(w:Wa)(h:AI A c o s w)(ok:OkM c s):Calls ZP 321 #[L (E ⟨A.E,0,O⟩)] w λe w'=>e=ra (i6 (Fx s))/\Bt w w':=by
 unfold Fx
 by_cases h5:s.eph=2
 ·rw[Lc h5];exact NJ w (NX w h.tcE h5)
 ·rw[Lb h5];have X:=ok.emp;have e:s.eph=1:=by omega
  cases Y:s.cancelled with
  |true=>
   exact FQ w h.tcE h.can h5 h.p0.mE.1 (λe=>by rw[Y]at e;cases e) (λ_=>⟨rfl,rfl⟩) (Vg func158 kr rfl) λV Z=>aaj V (h.bel Z)
  |false=>
   exact FQ w h.tcE h.can h5 h.p0.mE.1 (λ_=>by rw[e];rfl) (λe=>by rw[Y]at e;cases e) (Vg func158 kr rfl) λV Z=>aaj V (h.bel Z)
theorem acu(w:Wa)(h:AI A c o s w)(Z:OkC c)(ok:OkM c s)(t:Nat)(X:t<c.W+3):Calls ZP 321 #[L (E ⟨adT A c t,0,O⟩)] w λe w'=>e=ra (i6 (Bj c s t))/\Bt w w':=by
 unfold Bj adT
 by_cases h0:t=0
 ·rw[Lc h0,Lc h0];exact ahn w h ok
 ·rw[Lb h0,Lb h0]
  by_cases h1:t<=c.W
  ·rw[Lc h1,Lc h1];have Y:t-1<lc s.wk:=by have:=ok.wl;omega
   exact agZ w h ok (Ar Y) om Z.W.2
  ·rw[Lb h1,Lb h1]
   by_cases h2:t=c.W+1
   ·rw[Lc h2,Lc h2];exact aia w h ok Z.R.1
   ·rw[Lb h2,Lb h2,Lc om];exact ah8 w h ok
theorem akh(h:AE A c o s w W)(U:OkC c)(ok:OkM c s)(Y:Ck c s=G):Calls ZP 322 #[L (E ⟨A.R,0,O⟩)] W λe w'=>e=ra (ta #[])/\AE A c o (stepR c s) w w':=by
 have h0:=h;obtain⟨o1,h1,z1,g1⟩:=h0;have h5:s.rd.ph≠5:=λe=>by unfold Ck at Y;rw[Lc e]at Y;cases Y
 have hp:=ok.rph;have hK:=U.K;have I:=U.wm;unfold stepR
 cases X:s.cancelled with
 |true=>
  rw[Lc rfl];exact FO W h1.tcR h1.can h5 h1.p0.mR.1 (λe=>by rw[X]at e;cases e) (λ_=>⟨rfl,rfl⟩) (Vg func146 kr rfl) λV Z=>afD w V (h.bel Z) ok.frl
 |false=>
  rw[Lb sm]
  rcases(by omega:s.rd.ph=1∨s.rd.ph=2∨s.rd.ph=3∨s.rd.ph=4)with e|e|e|e
  ·rw[Lc e];have ha:Du s.next c.R s.number=G:=by unfold Ck at Y;rw[Lb h5,X,Lb sm,Lc e]at Y;exact Y
   have D:=ok.tak e X ha;obtain⟨l,n,hf⟩:∃l n,s.fr=l++[n]:=⟨_,_,(Em D).symm⟩;have H:=ok.tal;exact FO W h1.tcR h1.can h5 h1.p0.mR.1 (λ_=>by rw[e];rfl) (λe=>by rw[X]at e;cases e) (Vg func140 kr rfl) λV Z=>afB w V (h.bel Z) n l hf ok.frl ok.frr ok.dl om om
  ·rw[Lb om,Lc e];obtain⟨J,B,C,b3,v,b5,y⟩:=ok.buf (.inl e);have H:=ok.tal;refine FO W h1.tcR h1.can h5 h1.p0.mR.1 (λ_=>by rw[e];rfl) (λe=>by rw[X]at e;cases e) (Vg func142 kr rfl) λV Z=>?_
   by_cases N:s.rs=[]
   ·exact afC w V (h.bel Z) N om om ok.frl (by have:=ok.tol;omega)
   ·exact aef w V (h.bel Z) J N om I v B C om ok.tol ok.rsl ok.rdl om
  ·rw[Lb om,Lb om,Lc e];have j:lc s.q<c.Q:=by unfold Ck at Y;rw[Lb h5,X,Lb sm,Lb om,Lc e]at Y;exact Lj Y
   obtain⟨J,B,C,b3,v,b5,y⟩:=ok.buf (.inr e);exact FO W h1.tcR h1.can h5 h1.p0.mR.1 (λ_=>by rw[e];rfl) (λe=>by rw[X]at e;cases e) (Vg func144 kr rfl) λV Z=>aip w V (h.bel Z) J B C om y j (ok.shu h5) ok.fah ok.num
  ·rw[Lb om,Lb om,Lb om];exact FO W h1.tcR h1.can h5 h1.p0.mR.1 (λ_=>by rw[e];rfl) (λe=>by rw[X]at e;cases e) (Vg func145 kr rfl) λV Z=>aau w V (h.bel Z)
theorem aj6(h:AE A c o s w W)(J:OkC c)(ok:OkM c s){i:Nat}{x:WkM}(Z:s.wk[i]?=E x)(N:i<c.W)(U:Er s i=G):Calls ZP 322 #[L (E ⟨A.Wk i,0,O⟩)] W λe w'=>e=ra (ta #[])/\AE A c o (stepW c s i) w w':=by
 have h0:=h;obtain⟨y,h1,B,v⟩:=h0;have hW:=J.W.2;have h5:x.ph≠4:=λe=>by unfold Er at U;rw[Z]at U;simp only[e,if_true]at U;cases U
 obtain⟨p1,p2,p3,p4⟩:=ok.wkp i x Z;unfold stepW;rw[IZ Z]
 cases X:s.cancelled with
 |true=>
  rw[Lc rfl];exact FO W (h1.tcW Z om) h1.can h5 (h1.p0.mW i N).1 (λe=>by rw[X]at e;cases e) (λ_=>⟨rfl,rfl⟩) (Vg func152 kr rfl) λV Y=>afZ w V (h.bel Y) Z om ok.frl
 |false=>
  rw[Lb sm]
  rcases(by omega:x.ph=1∨x.ph=2∨x.ph=3)with e|e|e
  ·rw[Lc e];exact FO W (h1.tcW Z om) h1.can h5 (h1.p0.mW i N).1 (λ_=>by rw[e];rfl) (λe=>by rw[X]at e;cases e) (Vg func148 kr rfl) λV Y=>abD w V (h.bel Y) Z om e
  ·rw[Lb om,Lc e];exact FO W (h1.tcW Z om) h1.can h5 (h1.p0.mW i N).1 (λ_=>by rw[e];rfl) (λe=>by rw[X]at e;cases e) (Vg func149 kr rfl) λV Y=>ag9 w V (h.bel Y) Z om e p3 (p4 e)
  ·rw[Lb om,Lb om];obtain⟨C,D,H,I⟩:=ok.wpu i x Z e X;exact FO W (h1.tcW Z om) h1.can h5 (h1.p0.mW i N).1 (λ_=>by rw[e];rfl) (λe=>by rw[X]at e;cases e) (Vg func150 kr rfl) λV Y=>ah5 w V (h.bel Y) Z om e ok.frl I ok.nxt C D H
theorem akx(h:AE A c o s w W)(U:OkC c)(ok:OkM c s)(Z:EX c s=G):Calls ZP 322 #[L (E ⟨A.M,0,O⟩)] W λe w'=>e=ra (ta #[])/\AE A c o (stepMg s) w w':=by
 have h0:=h;obtain⟨D,h1,H,v⟩:=h0;have h5:s.mph≠3:=λe=>by unfold EX at Z;rw[Lc e]at Z;cases Z
 have C:=ok.mgp;have B:=U.R;unfold stepMg
 cases X:s.cancelled with
 |true=>
  rw[Lc rfl];exact FO W h1.tcM h1.can h5 h1.p0.mM.1 (λe=>by rw[X]at e;cases e) (λ_=>⟨rfl,rfl⟩) (Vg func157 kr rfl) λV Y=>aeL w V (h.bel Y) ok.nxt
 |false=>
  rw[Lb sm]
  rcases(by omega:s.mph=1∨s.mph=2)with e|e
  ·rw[Lc e];refine FO W h1.tcM h1.can h5 h1.p0.mM.1 (λ_=>by rw[e];rfl) (λe=>by rw[X]at e;cases e) (Vg func154 kr rfl) λV Y=>?_
   cases N:s.rg with
   |nil=>have:=ok.gl;rw[N]at this;simp at this;omega
   |cons y r=>
    cases y with
    |none=>exact adg w V (h.bel Y) ok.nxt r N
    |some l=>exact ad4 w V (h.bel Y) ok.nxt l r N
  ·rw[Lb om];have I:lc s.out<c.O:=by unfold EX at Z;rw[Lb h5,X,Lb sm,Lb om]at Z;exact Lj Z
   refine FO W h1.tcM h1.can h5 h1.p0.mM.1 (λ_=>by rw[e];rfl) (λe=>by rw[X]at e;cases e) (Vg func156 kr rfl) λV Y=>?_
   cases J:s.left with
   |nil=>exact absurd J (ok.mgl e X)
   |cons q t=>exact aeA w V (h.bel Y) q t J I (ok.end_ h5)
theorem ait(h:AE A c o s w W)(N:OkC c)(ok:OkM c s)(Y:Fx s=G):Calls ZP 322 #[L (E ⟨A.E,0,O⟩)] W λe w'=>e=ra (ta #[])/\AE A c o (stepE c s) w w':=by
 have h0:=h;obtain⟨I,h1,J,D⟩:=h0;have h5:s.eph≠2:=λe=>by unfold Fx at Y;rw[Lc e]at Y;cases Y
 have H:=ok.emp;have e:s.eph=1:=by omega
 unfold stepE
 cases U:s.cancelled with
 |true=>
  rw[Lc rfl];exact FO W h1.tcE h1.can h5 h1.p0.mE.1 (λe=>by rw[U]at e;cases e) (λ_=>⟨rfl,rfl⟩) (Vg func160 kr rfl) λV Z=>adC w V (h.bel Z)
 |false=>
  rw[Lb sm];refine FO W h1.tcE h1.can h5 h1.p0.mE.1 (λ_=>by rw[e];rfl) (λe=>by rw[U]at e;cases e) (Vg func159 kr rfl) λV Z=>?_
  cases X:s.out with
  |nil=>exact aeZ w V (h.bel Z) X
  |cons q t=>exact adq w V (h.bel Z) q t X ok.ofl ok.tkl ok.tol2 ok.oul
theorem akA(h:AE A c o s w W)(Y:OkC c)(ok:OkM c s)(t:Nat)(V:t<c.W+3)(Z:Bj c s t=G):Calls ZP 322 #[L (E ⟨adT A c t,0,O⟩)] W λe w'=>e=ra (ta #[])/\AE A c o (Bi c s t) w w':=by
 unfold Bj at Z;unfold Bi adT
 by_cases h0:t=0
 ·rw[Lc h0]at Z⊢;rw[Lc h0];exact akh h Y ok Z
 ·rw[Lb h0]at Z⊢;rw[Lb h0]
  by_cases h1:t<=c.W
  ·rw[Lc h1]at Z⊢;rw[Lc h1];have X:t-1<lc s.wk:=by have:=ok.wl;omega
   exact aj6 h Y ok (Ar X) om Z
  ·rw[Lb h1]at Z⊢;rw[Lb h1]
   by_cases h2:t=c.W+1
   ·rw[Lc h2]at Z⊢;rw[Lc h2];exact akx h Y ok Z
   ·rw[Lb h2]at Z⊢;rw[Lb h2];rw[Lc om]at Z;exact ait h Y ok Z
end
theorem akD:(ZP.info? 3).map (λi=>(i.zero,i.size,i.bytes))=E (E (R K 0),1,8):=by kernel_rfl
def enF(c:CfM)(s:PlM)(i:Nat):List Int:=((List.range i).filter (Bj c s)).map λx:Nat=>(x:Int)
theorem amA(c:CfM)(s:PlM)(i:Nat):enF c s (i+1)=enF c s i++(if Bj c s i then [(i:Int)] else []):=by
 unfold enF;rw[El,List.filter_append,Aj];congr 1
 cases h:Bj c s i<;>simp[h]
theorem akl(c:CfM)(s:PlM)(i:Nat):(enF c s i).length<=i:=by unfold enF;rw[BP];exact AS (List.length_filter_le _ _) (by rw[List.length_range];exact AC _)
theorem adu{A:PAd}{c:CfM}{s:PlM}{o:Nat->Nat}(w:Wa)(h:AI A c o s w)(I:OkC c)(ok:OkM c s) :Calls ZP 29 #[L (E ⟨A.P,0,O⟩)] w λe w'=>∃v,e=ra v/\FR w' w.heap.size v (enF c s (c.W+3))/\Bt w w':=by
 obtain⟨N,hN⟩:∃N,c.W+3=N:=⟨_,rfl⟩;obtain⟨i0,hi,ac,ab,aa⟩:=Ve akD;have aj:=h.g.ceP 15 (T (E ⟨A.TT,0,O⟩) N A.tc) λ_=>by rw[<-hN];rfl
 have hT:∀V,Bt w V->∀t,t<N->V.cell? ⟨A.TT,t,O⟩=E (.iface (tyT c t) (L (E ⟨adT A c t,0,O⟩)))/\Calls ZP 321 #[L (E ⟨adT A c t,0,O⟩)] V λe w'=>e=ra (i6 (Bj c s t))/\Bt V w':=λV hV t ht=>⟨(h.bel hV).task t om,acu V (h.bel hV) I ok t om⟩;have HT:=AA hT;have ao:N<=11:=by have:=I.W;omega
 have ap:=AA hN;rw[hN];clear h ok I hT hN;go_enter func29,ntmps29;go_upto_region 5 with fail
 go_loopw[3,13] (λs3 a8 wr=>∃(i:Nat)(v3:Vh),i<=N/\v3=s3/\a8=R K i/\FR wr w.heap.size v3 (enF c s i)/\Bt w wr) (λ_ s _=>N-(intOf s).toNat)
 case atStart=>exact⟨0,_,AR _,rfl,rfl,BN _ _ _ _,Jj _ _⟩
 case round=>
  obtain⟨i,v3,al,rfl,rfl,B,U⟩:=hrel
  by_cases af:i<N
  ·have hd:decide ((i:Int)<N)=G:=by simp;omega
   obtain⟨a2,X⟩:=HT.out wr U i af;obtain⟨ty,H⟩:∃ty,tyT c i=ty:=⟨_,rfl⟩;have ak:∀n Ta w,Sem.run ZP (method (n+1) ty (L (E ⟨Ta,0,O⟩)) "teasel/pool.ready") w=.ok (321,L (E ⟨Ta,0,O⟩)) w:=λn Ta w=>by rw[<-H];exact agX _ (Jv c i) n Ta w
   obtain⟨Ta,C⟩:∃Ta,adT A c i=Ta:=⟨_,rfl⟩;rw[H,C]at a2;rw[C]at X;have J:=AA (amA c s i);have a7:=AA (akl c s i);obtain⟨b,hb⟩:∃b,Bj c s i=b:=⟨_,rfl⟩;rw[hb]at X J;have HQ:=AA X;have ai:=AA B;have i1:(0:Int)<=(i:Int):=by omega
   have i2:(i:Int)<(N:Int):=by omega
   clear X B hb C H;go_upto_region 7 with fail
   go_wp2_with fail
   refine HQ.out.mono ?_;rintro e w2 ⟨rfl,a6⟩;have a1:=U.trans (a6.mono U.size);have ad:=a1.size;have Z:=DJ ai.out a6;clear a2 HQ
   cases b with
   |true=>
    obtain⟨LO,hL⟩:∃LO,enF c s i=LO:=⟨_,rfl⟩;rw[hL]at Z J a7;have ae:=a7.out
    go_wp2_with (at_builtin;refine wpList_append_own _ rfl _ _ 30 rfl w.heap.size 3 i0 (.int .i64 0) 1 8 underlying30 hi ac ab aa rfl (by decide) _ _ _ rfl (Z.alloc _) ⟨w2.heap.size,0,O⟩ 1 1 [.int .i64 i] rfl rfl (GI _ _ sm) (by simp[Value.oneCell']) (by unfold maxLen;omega) om (by simp;omega) ?_;intro v' w9 Y D am)
    have ag:=(a1.alloc ad (i7 #[R K (i:Int)] 3)).grown D (by simp;omega) (λj hj=>(Gw Z j hj).1);have y:FR w9 w.heap.size v' (enF c s (i+1)):=by rw[J.out];unfold FR;simp only[if_true,List.length_append,Aj];exact Y
    clear Z Y ae
    go_roundw
    case rel=>exact⟨i+1,_,by omega,rfl,by go_num,y,ag⟩
    case measure=>simp[intOf];omega
   |false=>
    have y:FR w2 w.heap.size v3 (enF c s (i+1)):=by have e:=J.out;simp only[Bool.false_eq_true,if_false,Cx]at e;rw[e];exact Z
    clear Z;go_wp2
    go_roundw
    case rel=>exact⟨i+1,_,by omega,rfl,by go_num,y,a1⟩
    case measure=>simp[intOf];omega
  ·obtain rfl:i=N:=by omega
   have hd:decide ((i:Int)<i)=M:=by simp
   go_wp2;go_ret;exact⟨_,rfl,B,U⟩
theorem ahX{A:PAd}{c:CfM}{s:PlM}{o:Nat->Nat}(w W:Wa)(h:AE A c o s w W)(Y:OkC c)(ok:OkM c s)(t:Nat)(I:t<c.W+3)(C:Bj c s t=G) :Calls ZP 44 #[L (E ⟨A.P,0,O⟩),R K (t:Int)] W λe w'=>e=ra (i6 G)/\AE A c o (Bi c s t) w w':=by
 obtain⟨N,v⟩:∃N,c.W+3=N:=⟨_,rfl⟩;have H:∀V,Bt W V->V.cell? ⟨A.P,15,O⟩=E (T (E ⟨A.TT,0,O⟩) N A.tc)/\V.cell? ⟨A.TT,t,O⟩=E (.iface (tyT c t) (L (E ⟨adT A c t,0,O⟩))):=λV B=>by have J:=h.bel B;exact⟨J.ceP 15 _ λ_=>by rw[<-v];rfl,J.low λo1 h1=>h1.task t I⟩
 have HR:Hid (Calls ZP 321 #[L (E ⟨adT A c t,0,O⟩)] W λe w'=>e=ra (i6 G)/\Bt W w'):=h.low λo1 h1=>by
  have:=acu W h1 Y ok t I
  rwa[C]at this
 have j:Hid (∀V,Bt W V->Calls ZP 322 #[L (E ⟨adT A c t,0,O⟩)] V λe w'=>e=ra (ta #[])/\AE A c o (Bi c s t) w w'):=λV B=>akA (h.bel B) Y ok t I C;obtain⟨ty,Z⟩:∃ty,tyT c t=ty:=⟨_,rfl⟩;have a2:∀n Ta w,Sem.run ZP (method (n+1) ty (L (E ⟨Ta,0,O⟩)) "teasel/pool.ready") w=.ok (321,L (E ⟨Ta,0,O⟩)) w:=λn Ta w=>by rw[<-Z];exact agX _ (Jv c t) n Ta w
 have a6:∀n Ta w,Sem.run ZP (method (n+1) ty (L (E ⟨Ta,0,O⟩)) "teasel/pool.step") w=.ok (322,L (E ⟨Ta,0,O⟩)) w:=λn Ta w=>by rw[<-Z];exact anG _ (Jv c t) n Ta w
 obtain⟨Ta,U⟩:∃Ta,adT A c t=Ta:=⟨_,rfl⟩;rw[U]at HR j;rw[Z,U]at H;have HK:=AA H;obtain⟨D,kt⟩:=H W (AH _ _);have d0:decide ((t:Int)<0)=M:=by simp
 have d1:decide ((t:Int)>=(N:Int))=M:=by simp;omega
 have d2:decide ((N:Int)<=(t:Int))=M:=by simp;omega
 have d3:decide (N<=t)=M:=by simp;omega
 have i1:(0:Int)<=(t:Int):=by omega
 have i2:(t:Int)<(N:Int):=by omega
 clear h Y ok I C v H U Z;go_enter func44,ntmps44;go_upto_region 3 with(go_at_call 321;refine HR.out.mono ?_;rintro e w1 ⟨rfl,X⟩;have y:=AA (j.out _ X);obtain⟨a1,jt⟩:=HK.out _ X;clear X)
 clear D kt
 go_wp2_with (go_at_call 322;refine y.out.mono ?_;rintro e w2 ⟨rfl,J⟩;have HG:=AA J;clear J)
 go_ret;exact⟨rfl,HG.out⟩
theorem akS(n:Int){k:Nat}(h:0<k):Fz n k<k:=by unfold Fz;have h1:=Int.tmod_lt_of_pos (n.tmod k+k) (show(0:Int)<(k:Int) by omega);have h2:=Int.lt_tmod_of_pos n (show(0:Int)<(k:Int) by omega);have h3:=Int.tmod_nonneg (a:=n.tmod k+k) (k:Int) om;omega
theorem ak5(c:CfM)(s:PlM):enF c s (c.W+3)=(II c s).map λx:Nat=>(x:Int):=rfl
theorem acm{c:CfM}{s:PlM}{n:Int}(h:EZ c s n=O):II c s=[]:=by
 unfold EZ at h;rw[List.getElem?_eq_none_iff]at h
 cases Z:II c s with
 |nil=>rfl
 |cons y t=>
  rw[Z]at h;have:=akS n (k:=(y::t).length) sm;omega
theorem aaO{c:CfM}{s:PlM}{n:Int}{t:Nat}(h:EZ c s n=E t):t<c.W+3/\Bj c s t=G:=by unfold EZ at h;have:=List.mem_of_getElem? h;unfold II at this;have h2:=List.mem_filter.1 this;exact⟨List.mem_range.1 h2.1,h2.2⟩
theorem ahi{A:PAd}{c:CfM}{s:PlM}{o:Nat->Nat}(w W:Wa)(h:AE A c o s w W)(Z:OkC c)(ok:OkM c s)(n:Int) :Calls ZP 17 #[L (E ⟨A.P,0,O⟩),R K n] W λe w'=>e=ra (ta (match EZ c s n with|none=>#[R K 0,i6 M]|some t=>#[R K (t:Int),i6 G]))/\AE A c o (Fi c s n) w w':=by
 obtain⟨k,hk⟩:∃k,(II c s).length=k:=⟨_,rfl⟩;have Y:(enF c s (c.W+3)).length=k:=by rw[ak5,BP];exact hk
 have D:k<=1000000:=by have:=akl c s (c.W+3);have:=Z.W;omega
 have HE:Hid (Calls ZP 29 #[L (E ⟨A.P,0,O⟩)] W λe w'=>∃a X,e=ra (T a k X)/\Sl1 (R K) w' a k (enF c s (c.W+3))/\AE A c o s w w'):=h.low λo1 h1=>(adu W h1 Z ok).mono λe w' ⟨v,h2,h3,h4⟩=>by obtain⟨a,X,rfl,_,U⟩:=Co (enc:=R K) h3;rw[Y]at h2 U;exact⟨a,X,h2,U,h.bel h4⟩
 have a1:=AA (Lq Z ok);unfold Fi
 cases J:EZ c s n with
 |none=>
  have hz:=acm J;have I:k=0:=by rw[<-hk,hz];rfl
  subst I;clear h Z ok hk Y J hz D;go_enter func17,ntmps17
  go_wp2_with (first|(go_at_call 29;refine HE.out.mono ?_;rintro e w1 ⟨a,X,rfl,U,N⟩;have HG:=AA N;have B:=AA U;clear N U)|(go_at_call 43;refine(acE n a 0 X (enF c s (c.W+3)) _ B.out om).mono ?_;rintro e w2 ⟨rfl,rfl⟩))
  go_ret2;exact⟨rfl,HG.out⟩
 |some t=>
  obtain⟨ht,hr⟩:=aaO J;have I:k≠0:=by intro e;unfold EZ at J;have:=(AP.1 J).1;omega
  have H:(enF c s (c.W+3)).getD (Fz n k) 0=(t:Int):=by
   unfold EZ at J;rw[hk]at J;rw[ak5,DZ,BU,J]
   rfl
  have y:Hid (∀(a:Option Addr)(X:Nat) V,Sl1 (R K) V a k (enF c s (c.W+3))->Calls ZP 43 #[R K n,T a k X] V λe w'=>e=ra (ta #[R K (t:Int),i6 G])/\w'=V):=λa X V U=>by have:=acE n a k X (enF c s (c.W+3)) V U D;rw[Lb I,H]at this;exact this
  have C:Hid (∀V,AE A c o s w V->Calls ZP 44 #[L (E ⟨A.P,0,O⟩),R K (t:Int)] V λe w'=>e=ra (i6 G)/\AE A c o (Bi c s t) w w'):=λV N=>ahX w V N Z ok t ht hr;clear h Z ok hk Y J D I H ht hr;go_enter func17,ntmps17;go_upto_region 4 with(first|(go_at_call 29;refine HE.out.mono ?_;rintro e w1 ⟨a,X,rfl,U,N⟩;have HG:=AA N;have B:=AA U;clear N U)|(go_at_call 43;refine(y.out a X _ B.out).mono ?_;rintro e w2 ⟨rfl,rfl⟩))
  go_wp2_with (go_at_call 44;refine(C.out _ HG.out).mono ?_;rintro e w2 ⟨rfl,N⟩;have j:=AA N;clear N)
  go_ret2;exact⟨rfl,j.out⟩
def GY(c:CfM)(s:PlM)(t:Nat):Bool:=if t=0 then decide (s.rd.ph=5) else if t<=c.W then decide (phW s (t-1)=4) else if t=c.W+1 then decide (s.mph=3) else decide (s.eph=2)
theorem ajP{c:CfM}{s:PlM}(U:lc s.wk=c.W):Fd s=G↔∀t,t<c.W+3->GY c s t=G:=by
 unfold Fd;simp only[Bq,decide_eq_true_eq,List.all_eq_true]
 constructor
 ·rintro⟨⟨⟨h1,h2⟩,h3⟩,h4⟩ t V;unfold GY
  split
  ·simpa using h1
  ·split
   ·have Z:t-1<lc s.wk:=by omega
    have:=h2 _ (List.getElem_mem Z);rw[IZ (Ar Z)]
    simpa using this
   ·split
    ·simpa using h3
    ·simpa using h4
 ·intro h;refine⟨⟨⟨?_,λx X=>?_⟩,?_⟩,?_⟩
  ·have:=h 0 om;simpa[GY]using this
  ·obtain⟨i,Y⟩:=List.mem_iff_getElem?.1 X;have Z:i<lc s.wk:=(AP.1 Y).1;have:=h (i+1) om;unfold GY at this;rw[Lb om,Lc om,Jl,IZ Y]at this;exact Lj this
  ·have:=h (c.W+1) om;unfold GY at this;rw[Lb om,Lb om,Lc rfl]at this;exact Lj this
  ·have:=h (c.W+2) om;unfold GY at this;rw[Lb om,Lb om,Lb om]at this;exact Lj this
theorem ake{A:PAd}{c:CfM}{s:PlM}{o:Nat->Nat}(w:Wa)(h:AI A c o s w)(Y:OkC c)(U:lc s.wk=c.W)(t:Nat)(V:t<c.W+3):Calls ZP 319 #[L (E ⟨adT A c t,0,O⟩)] w λe w'=>e=ra (i6 (GY c s t))/\Bt w w':=by
 have go:∀{Ta a l mp:Nat}{sc sd:Vh},GL A.P Ta a l mp sc sd w->Calls ZP 319 #[L (E ⟨Ta,0,O⟩)] w λe w'=>e=ra (i6 (decide (a=l)))/\Bt w w':=λ{Ta a l mp sc sd} X=>by
  have:=NS Ta a l w X.c1 X.c2;have e:decide ((a:Int)=(l:Int))=decide (a=l):=by rw[Db];simp;omega
  rwa[e]at this
 unfold GY adT
 split
 ·exact go h.tcR
 ·split
  ·have Z:t-1<lc s.wk:=by omega
   rw[IZ (Ar Z)];exact go (h.tcW (Ar Z) (by have:=Y.W;omega))
  ·split
   ·exact go h.tcM
   ·exact go h.tcE
theorem ag2(ty:TypeId)(Z:Ky ty)(Ta:Nat)(b:Bool)(w:Wa)(h:Calls ZP 319 #[L (E ⟨Ta,0,O⟩)] w λe w'=>e=ra (i6 b)/\Bt w w') :Calls ZP 58 #[.iface ty (L (E ⟨Ta,0,O⟩))] w λe w'=>e=ra (i6 (!b))/\Bt w w':=by
 have V:=AA h;have X:∀n Ta w,Sem.run ZP (method (n+1) ty (L (E ⟨Ta,0,O⟩)) "teasel/pool.over") w=.ok (319,L (E ⟨Ta,0,O⟩)) w:=λn Ta w=>NY _ Z n Ta w;clear h Z;go_enter func58,ntmps58
 go_wp2_with (go_at_call 319;refine V.out.mono ?_;rintro e N ⟨rfl,Y⟩;have U:=AA Y;clear Y)
 go_ret;exact⟨rfl,U.out⟩
theorem adJ{A:PAd}{c:CfM}{s:PlM}{o:Nat->Nat}(w:Wa)(h:AI A c o s w)(U:OkC c)(v:lc s.wk=c.W) :Calls ZP 107 #[T (E ⟨A.TT,0,O⟩) (c.W+3) A.tc,.func (.func 58) #[] #[]] w λe w'=>∃r:Int,e=ra (R K r)/\decide (0<=r)=!Fd s/\Bt w w':=by
 obtain⟨N,hN⟩:∃N,c.W+3=N:=⟨_,rfl⟩;have hT:∀V,Bt w V->∀t,t<N->V.cell? ⟨A.TT,t,O⟩=E (.iface (tyT c t) (L (E ⟨adT A c t,0,O⟩)))/\Calls ZP 58 #[.iface (tyT c t) (L (E ⟨adT A c t,0,O⟩))] V λe w'=>e=ra (i6 (!GY c s t))/\Bt V w':=λV hV t ht=>⟨(h.bel hV).task t om,ag2 _ (Jv c t) _ _ V (ake V (h.bel hV) U v t om)⟩;have HT:=AA hT;have a6:N<=11:=by have:=U.W;omega
 have H:Fd s=G↔∀t,t<N->GY c s t=G:=by rw[<-hN];exact ajP v
 have y:=AA H;have eg:=Vg func58 kr rfl;rw[hN];clear h U hT hN H v;go_enter func107,ntmps107;go_upto_region 2 with fail
 go_loopw[8] (λs8 wr=>∃(i:Nat),i<=N/\s8=R K i/\(∀t,t<i->GY c s t=G)/\Bt w wr) (λs _=>N-(intOf s).toNat)
 case atStart=>exact⟨0,AR _,rfl,λt ht=>by omega,Jj _ _⟩
 case round=>
  obtain⟨i,a2,rfl,Z,X⟩:=hrel
  by_cases D:i<N
  ·have hd:decide ((i:Int)<N)=G:=by simp;omega
   obtain⟨I,Y⟩:=HT.out wr X i D;have HA:=AA Z;have a1:=AA D;obtain⟨ty,J⟩:∃ty,tyT c i=ty:=⟨_,rfl⟩;obtain⟨Ta,C⟩:∃Ta,adT A c i=Ta:=⟨_,rfl⟩;rw[J,C]at I Y;obtain⟨b,hb⟩:∃b,GY c s i=b:=⟨_,rfl⟩;rw[hb]at Y;have HQ:=AA Y;have HB:=AA hb;have i1:(0:Int)<=(i:Int):=by omega
   have i2:(i:Int)<(N:Int):=by omega
   clear Y hb C J Z;go_upto_region 4 with fail
   go_wp2_with fail
   refine HQ.out.mono ?_;rintro e w2 ⟨rfl,j⟩;have B:=X.trans (j.mono X.size);clear I HQ
   cases b with
   |false=>
    go_wp2;go_ret;refine⟨(i:Int),rfl,?_,B⟩;have:Fd s=M:=by
     cases ho:Fd s with
     |false=>rfl
     |true=>have:=y.out.1 ho i a1.out;rw[HB.out]at this;cases this
    rw[this];simp
   |true=>
    go_wp2
    go_roundw
    case rel=>exact⟨i+1,by omega,by go_num,λt ht=>by
     by_cases e:t=i
     ·rw[e];exact HB.out
     ·exact HA.out t om,B⟩
    case measure=>simp[intOf];omega
  ·obtain rfl:i=N:=by omega
   have hd:decide ((i:Int)<i)=M:=by simp
   have HA:=AA Z;clear Z;go_wp2;go_ret;refine⟨-1,rfl,?_,X⟩;rw[y.out.2 HA.out]
   rfl
theorem acf{A:PAd}{c:CfM}{s:PlM}{o:Nat->Nat}(w:Wa)(h:AI A c o s w)(Y:OkC c)(U:lc s.wk=c.W) :Calls ZP 59 #[T (E ⟨A.TT,0,O⟩) (c.W+3) A.tc,.func (.func 58) #[] #[]] w λe w'=>e=ra (i6 (!Fd s))/\Bt w w':=by
 have J:=AA (adJ w h Y U);obtain⟨b,Z⟩:∃b,Fd s=b:=⟨_,rfl⟩;obtain⟨N,X⟩:∃N,c.W+3=N:=⟨_,rfl⟩;rw[Z,X]at J;rw[Z,X];clear h Y U Z X;go_enter func59,ntmps59
 go_wp2_with (go_at_call 107;refine J.out.mono ?_;rintro e D ⟨r,rfl,V,Z⟩;have H:=AA Z;have I:=AA V;clear Z V)
 go_ret;refine⟨?_,H.out⟩;rw[<-I.out];rfl
theorem ahx{A:PAd}{c:CfM}{s:PlM}{o:Nat->Nat}(w:Wa)(h:AI A c o s w)(Y:OkC c)(U:lc s.wk=c.W) :Calls ZP 16 #[L (E ⟨A.P,0,O⟩)] w λe w'=>e=ra (i6 (Fd s))/\Bt w w':=by
 have J:=AA (acf w h Y U);have X:=h.g.ceP 15 (T (E ⟨A.TT,0,O⟩) (c.W+3) A.tc) λ_=>rfl;obtain⟨b,Z⟩:∃b,Fd s=b:=⟨_,rfl⟩;obtain⟨N,V⟩:∃N,c.W+3=N:=⟨_,rfl⟩;rw[Z,V]at J;rw[V]at X;rw[Z];clear h Y U Z V;go_enter func16,ntmps16
 go_wp2_with (go_at_call 59;refine J.out.mono ?_;rintro e H ⟨rfl,Z⟩;have I:=AA Z;clear Z)
 go_ret;refine⟨?_,I.out⟩;simp
theorem apX{A:PAd}{c:CfM}{s:PlM}{o:Nat->Nat}(w W:Wa)(h:AE A c o s w W)(Z:OkC c)(J:lc s.wk=c.W) :Calls ZP 21 #[L (E ⟨A.P,0,O⟩)] W λe w'=>e=ra (i6 (!(s.cancelled || Fd s)))/\AE A c o (LN s) w w':=by
 have V:=h.ceP 19 (i6 s.cancelled) λ_=>rfl;have I:Hid (Calls ZP 16 #[L (E ⟨A.P,0,O⟩)] W λe w'=>e=ra (i6 (Fd s))/\AE A c o s w w'):=h.low λv h1=>(ahx W h1 Z J).mono λe w' ⟨h2,h3⟩=>⟨h2,h.bel h3⟩;have N:=AA h
 cases Y:s.cancelled with
 |true=>
  rw[Y]at V;have X:LN s=s:=by unfold LN;rw[Y];rfl
  rw[X];clear h J Z Y X;go_enter func21,ntmps21;go_wp2;go_ret;exact⟨by simp,N.out⟩
 |false=>
  rw[Y]at V
  cases ho:Fd s with
  |true=>
   have X:LN s=s:=by unfold LN;rw[Y,ho];rfl
   rw[X];rw[ho]at I;clear h J Z Y X ho N;go_enter func21,ntmps21
   go_wp2_with (go_at_call 16;refine I.out.mono ?_;rintro e D ⟨rfl,U⟩;have N:=AA U;clear U)
   go_ret;exact⟨by simp,N.out⟩
  |false=>
   have X:LN s={s with cancelled:=G}:=by unfold LN;rw[Y,ho];rfl
   rw[X];rw[ho]at I;have y:=AA Y;clear h J Z X ho N Y;go_enter func21,ntmps21;go_upto_region 3 with(go_at_call 16;refine I.out.mono ?_;rintro e D ⟨rfl,U⟩)
   have B:=U.ceP 19 (i6 s.cancelled) λ_=>rfl;have C:=U.frP 19;have H:=AA (U.setP 19 (i6 G) {s with cancelled:=G} (λ_=>rfl) rfl (Ai.congr 1));clear U V;go_wp2;go_ret;exact⟨by simp,H.out⟩
def muW(x:WkM):Nat:=if x.ph=4 then 0 else if x.ph=1 then 1 else 2
def muM(s:PlM):Nat:=(if s.rd.ph=5 then 0 else 1)+(s.wk.map muW).sum+lc s.q+(if s.mph=3 then 0 else 1)+(if s.eph=2 then 0 else 1)+(if s.out=[] then 0 else 1)
section
variable {c:CfM}{s t:PlM}{i:Nat}{x:WkM}
theorem Pk{l:List WkM}(h:l[i]?=E x)(f:WkM->WkM):((l.modify i f).map muW).sum+muW x=(l.map muW).sum+muW (f x):=by
 rw[amR h f];have e:=congrArg (λl=>(List.map muW l).sum) (amN h)
 try dsimp only at e
 rw[e];simp only[Aj,BO,List.sum_append,List.sum_cons];omega
theorem arC{s t:PlM}(h1:t.rd=s.rd)(h2:t.mph=s.mph)(h3:t.eph=s.eph)(h4:t.out=s.out):muM t+((s.wk.map muW).sum+lc s.q)=muM s+((t.wk.map muW).sum+lc t.q):=by unfold muM;rw[h1,h2,h3,h4];omega
theorem arO(Z:Ck c s=G):muM (stopR s)+1<=muM s:=by
 have h5:s.rd.ph≠5:=λe=>by unfold Ck at Z;rw[Lc e]at Z;cases Z
 have e:(stopR s).rd.ph=5/\(stopR s).wk=s.wk/\(stopR s).q=s.q/\(stopR s).mph=s.mph/\(stopR s).eph=s.eph/\(stopR s).out=s.out:=by
  unfold stopR shutR backR
  split<;>exact⟨rfl,rfl,rfl,rfl,rfl,rfl⟩
 obtain⟨N,e2,U,V,X,Y⟩:=e;unfold muM;rw[N,e2,U,V,X,Y,Lc rfl,Lb h5];omega
theorem Ly(Z:s.wk[i]?=E x):leaveW s i=setW (Bv s x.blk.buf) i λ_=>wk0 1:=by unfold leaveW;rw[Z]
theorem arF(Y:s.wk[i]?=E x)(X:x.ph≠4)(Z:x.ph≠1):muM (leaveW s i)+1<=muM s:=by
 rw[Ly Y];have h:=Pk Y (λ_=>wk0 1);have h1:muW x=2:=by unfold muW;rw[Lb X,Lb Z]
 have h2:muW (wk0 1)=1:=rfl;rw[h1,h2]at h;have h3:=arC (s:=s) (t:=setW (Bv s x.blk.buf) i λ_=>wk0 1) rfl rfl rfl rfl;have h4:(setW (Bv s x.blk.buf) i λ_=>wk0 1).wk=s.wk.modify i λ_=>wk0 1:=rfl;have h5:(setW (Bv s x.blk.buf) i λ_=>wk0 1).q=s.q:=rfl;rw[h4,h5]at h3;omega
theorem arQ(Y:s.wk[i]?=E x)(X:Er s i=G):muM (stopW s i)+1<=muM s:=by
 unfold Er at X;rw[Y]at X;dsimp only at X;have h4:x.ph≠4:=λe=>by rw[Lc e]at X;cases X
 unfold stopW;rw[Fc Y];dsimp only
 by_cases h1:x.ph=1
 ·rw[Lc h1];have V:muW x=1:=by unfold muW;rw[Lb h4,Lc h1]
  cases U:s.q with
  |nil=>
   have Z:takeW s i=setW s i λw=>{w with ph:=4}:=by unfold takeW;rw[U]
   have e:(takeW s i).wk[i]?=E {x with ph:=4}:=by rw[Z];exact KW Y _
   rw[Fc e,Lc rfl,Z];have h:=Pk Y (λw=>{w with ph:=4});have h2:muW {x with ph:=4}=0:=rfl;rw[V,h2]at h;have h3:=arC (s:=s) (t:=setW s i λw=>{w with ph:=4}) rfl rfl rfl rfl;have h5:(setW s i λw=>{w with ph:=4}).wk=s.wk.modify i λw=>{w with ph:=4}:=rfl;have h6:(setW s i λw=>{w with ph:=4}).q=s.q:=rfl;rw[h5,h6]at h3;omega
  |cons b q=>
   have Z:takeW s i={setW s i (λw=>{w with ph:=2,blk:=b})with q:=q}:=by unfold takeW;rw[U]
   have e:(takeW s i).wk[i]?=E {x with ph:=2,blk:=b}:=by rw[Z];exact KW Y _
   rw[Fc e,Lb (show ¬(2=4) by decide)];have h7:=arF e (show(2:Nat)≠4 by decide) (show(2:Nat)≠1 by decide);have h:=Pk Y (λw=>{w with ph:=2,blk:=b});have h2:muW {x with ph:=2,blk:=b}=2:=rfl;rw[V,h2]at h;have h8:muM (takeW s i)<=muM s:=by
    have h3:=arC (s:=s) (t:=takeW s i) (by rw[Z];rfl) (by rw[Z];rfl) (by rw[Z];rfl) (by rw[Z];rfl);have h5:(takeW s i).wk=s.wk.modify i λw=>{w with ph:=2,blk:=b}:=by rw[Z];rfl
    have h6:(takeW s i).q=q:=by rw[Z]
    rw[h5,h6,U,Ao]at h3;omega
   omega
 ·rw[Lb h1,Fc Y,Lb h4];exact arF Y h4 h1
theorem arL(Z:EX c s=G):muM (Hr s)+1<=muM s:=by
 have h3:s.mph≠3:=λe=>by unfold EX at Z;rw[Lc e]at Z;cases Z
 unfold muM Hr;simp only[Lb h3,if_true];omega
theorem arN(Z:Fx s=G):muM (Fr s)+1<=muM s:=by
 have h3:s.eph≠2:=λe=>by unfold Fx at Z;rw[Lc e]at Z;cases Z
 unfold Fr
 by_cases ho:s.out=[]
 ·have e:s.out.isEmpty=G:=by rw[ho];rfl
  rw[Lc e];unfold muM;simp only[ho,Lb h3,if_true];omega
 ·have e:¬s.out.isEmpty=G:=λe=>ho (List.isEmpty_iff.1 e);rw[Lb e];unfold muM;simp only[Lb ho,if_true];omega
theorem arJ(V:lc s.wk=c.W)(Y:s.cancelled=G){k:Nat}(Z:Bj c s k=G):muM (Bi c s k)+1<=muM s:=by
 unfold Bj at Z;unfold Bi
 split at Z
 ·rw[Lc (by assumption)];unfold stepR;rw[Lc Y];exact arO Z
 ·rw[Lb (by assumption)]
  split at Z
  ·rw[Lc (by assumption)];unfold stepW;rw[Lc Y]
   cases X:s.wk[k-1]? with
   |none=>unfold Er at Z;rw[X]at Z;cases Z
   |some x=>exact arQ X Z
  ·rw[Lb (by assumption)]
   split at Z
   ·rw[Lc (by assumption)];unfold stepMg;rw[Lc Y];exact arL Z
   ·rw[Lb (by assumption)]
    split at Z
    ·unfold stepE;rw[Lc Y];exact arN Z
    ·cases Z
theorem arR(h:CD c s)(U:s.cancelled=G)(ho:Fd s=M):II c s≠[]:=by
 intro J;have Y:∀k,k<c.W+3->Bj c s k=M:=λk hk=>by
  cases I:Bj c s k with
  |false=>rfl
  |true=>
   have:k∈II c s:=List.mem_filter.2 ⟨List.mem_range.2 hk,I⟩;rw[J]at this
   cases this
 have h5:s.rd.ph=5:=Md λZ=>by
  have:=Y 0 om;unfold Bj Ck at this;rw[Lc rfl,Lb Z,Lc U]at this
  cases this
 have N:Ep s=G:=by unfold Ep;rw[h.shu,h5];simp
 have h4:∀(i:Nat)(x:WkM),s.wk[i]?=E x->x.ph=4:=λi x X=>Md λZ=>by
  have V:=(AP.1 X).1;rw[h.wl]at V;have:=Y (i+1) om;unfold Bj Er at this;rw[Lb om,Lc om,Jl,X]at this;dsimp only at this;rw[Lb Z]at this
  split at this
  ·rw[N]at this;cases this
  ·cases this
 have h3:s.mph=3:=Md λZ=>by
  have:=Y (c.W+1) om;unfold Bj EX at this;rw[Lb om,Lb om,Lc rfl,Lb Z,Lc U]at this
  cases this
 have h2:s.eph=2:=Md λZ=>by have:=Y (c.W+2) om;unfold Bj Fx IV at this;rw[Lb om,Lb om,Lb om,Lc rfl,Lb Z,h.en,h3]at this;simp at this
 have:Fd s=G:=by unfold Fd;rw[h5,h3,h2];simp;intro x X;obtain⟨i,V⟩:=DR X;exact h4 i x V
 rw[ho]at this
 cases this
end
section
variable {c:CfM}{s t:PlM}{i k:Nat}{x:WkM}
theorem aaV:(takeW s i).cancelled=s.cancelled:=by unfold takeW;split<;>rfl
theorem aaz:(leaveW s i).cancelled=s.cancelled:=by unfold leaveW;split<;>rfl
theorem ae3(k:Nat):(Bi c s k).cancelled=s.cancelled:=by
 unfold Bi
 split
 ·unfold stepR
  split
  ·unfold stopR shutR backR
   split<;>rfl
  ·split
   ·rfl
   ·split
    ·unfold readR;dsimp only
     split
     ·split<;>rfl
     ·rfl
    ·split<;>rfl
 ·split
  ·unfold stepW
   split
   ·unfold stopW;dsimp only
    repeat' split
    all_goals first|rfl|exact aaV|exact aaz|exact aaz.trans aaV
   ·split
    ·exact aaV
    ·split
     ·rfl
     ·unfold putWM
      split
      ·rfl
      ·rw[aaz]
  ·split
   ·unfold stepMg takeM flushM Hr
    repeat' split
    all_goals rfl
   ·unfold stepE offerE Fr
    repeat' split
    all_goals rfl
structure MP(c:CfM)(s:PlM):Prop where
 r:Az s
 f:CD c s
theorem JH(Z:Er s i=G):∃x,s.wk[i]?=E x/\x.ph≠4:=by
 unfold Er at Z
 cases Y:s.wk[i]? with
 |none=>rw[Y]at Z;cases Z
 |some x=>
  rw[Y]at Z;exact⟨x,rfl,λe=>by dsimp only at Z;rw[Lc e]at Z;cases Z⟩
theorem MP.step(h:MP c s)(Z:Bj c s k=G):MP c (Bi c s k):=by
 unfold Bj at Z;unfold Bi
 split at Z
 ·rw[Lc (by assumption)];exact⟨h.r.stepR,h.f.stepR Z⟩
 ·rw[Lb (by assumption)]
  split at Z
  ·rw[Lc (by assumption)];obtain⟨x,Y,_⟩:=JH Z;exact⟨h.r.stepW Y,h.f.stepW⟩
  ·rw[Lb (by assumption)]
   split at Z
   ·rw[Lc (by assumption)];exact⟨h.r.stepMg,h.f.stepMg h.r Z⟩
   ·rw[Lb (by assumption)];exact⟨h.r.stepE,h.f.stepE⟩
theorem MP.cancel(h:MP c s):MP c (LN s):=by
 unfold LN
 split
 ·exact h
 ·exact⟨⟨h.r.ph,h.r.ho,h.r.wp,h.r.mp,h.r.ep⟩,⟨h.f.shu,h.f.en,h.f.ml,h.f.wl,h.f.gl,h.f.ql,h.f.ol⟩⟩
theorem ajE(Y:1<=c.W)(rs:La):MP c (Bn c rs):=by refine⟨⟨⟨AC _,by show 1<=5;decide⟩,by show M=G↔(1=2∨1=3);simp,λi x Z=>?_,⟨AC _,by show 1<=3;decide⟩,⟨AC _,by show 1<=2;decide⟩⟩,⟨rfl,rfl,λe=>by have e:(1:Nat)=2:=e;omega,CS,CS,AR _,AR _⟩⟩;have:=Ho (List.mem_of_getElem? (show(List.replicate c.W (wk0 1))[i]?=E x from Z));rw[this];exact⟨AC _,by show 1<=4;decide⟩
theorem arA(Y:lc s.wk=c.W)(ho:Fd s=G):II c s=[]:=by
 unfold II;rw[List.filter_eq_nil_iff];intro k hk;have hk:=List.mem_range.1 hk;unfold Fd at ho;simp only[Bq,decide_eq_true_eq,List.all_eq_true]at ho;obtain⟨⟨⟨h1,h2⟩,h3⟩,h4⟩:=ho;unfold Bj
 split
 ·unfold Ck;rw[Lc h1];decide
 ·split
  ·unfold Er
   cases Z:s.wk[k-1]? with
   |none=>simp
   |some x=>dsimp only;rw[Lc (h2 x (List.mem_of_getElem? Z))];decide
  ·split
   ·unfold EX;rw[Lc h3];decide
   ·split
    ·unfold Fx;rw[Lc h4];decide
    ·decide
theorem arI(Z:lc s.wk=c.W)(ho:Fd s=G)(n:Int):Fi c s n=s:=by
 unfold Fi EZ;rw[arA Z ho]
 rfl
def PJ(c:CfM)(s:PlM):List Int->PlM
 |[]=>s
 |n::l=>PJ c (Fi c s n) l
theorem apO(Z:II c s≠[])(n:Int):∃k,EZ c s n=E k:=by unfold EZ;have:0<(II c s).length:=apG.2 Z;exact⟨_,Ar (akS n this)⟩
end
def Cj:Nat->List (Option (List AF))->List Nat
 |_,[]=>[]
 |n,O::t=>Cj (n+1) t
 |n,E _::t=>n::Cj (n+1) t
def GA(s:PlM):List Nat:=(If s).map Bc.num++Cj s.next s.rg
theorem abo:∀(n:Nat)(l:List (Option (List AF))),Cj n (l++[O])=Cj n l
 |n,[]=>rfl
 |n,O::t=>abo (n+1) t
 |n,E h::t=>congrArg (n::·) (abo (n+1) t)
theorem Ib(n y:Nat)(l:List Nat):(n::l).count y=l.count y+if y=n then 1 else 0:=by
 rw[List.count_cons]
 by_cases h:y=n
 ·subst h;simp
 ·have:¬n=y:=λe=>h e.symm;simp[h,this]
theorem abZ:∀(n j:Nat)(l:List (Option (List AF))) (h:List AF) (y:Nat),l[j]?=E O->(Cj n (l.set j (E h))).count y=(Cj n l).count y+if y=n+j then 1 else 0
 |n,j,[],h,y,hj=>by simp at hj
 |n,0,a::t,h,y,hj=>by
  cases AK hj
  show(n::Cj (n+1) t).count y=_;rw[Ib]
  rfl
 |n,j+1,O::t,h,y,hj=>by have:=abZ (n+1) j t h y hj;show(Cj (n+1) (t.set j (E h))).count y=(Cj (n+1) t).count y+_;rw[this,show n+1+j=n+(j+1) by omega]
 |n,j+1,E a::t,h,y,hj=>by have:=abZ (n+1) j t h y hj;show(n::Cj (n+1) (t.set j (E h))).count y=(n::Cj (n+1) t).count y+_;rw[Ib,Ib,this,show n+1+j=n+(j+1) by omega];omega
theorem ND:∀(n j:Nat)(l:List (Option (List AF))) (h:List AF),l[j]?=E (E h)->0<(Cj n l).count (n+j)
 |n,j,[],h,hj=>by simp at hj
 |n,0,a::t,h,hj=>by
  cases AK hj
  show 0<(n::Cj (n+1) t).count (n+0);rw[Ib,Lc om];omega
 |n,j+1,O::t,h,hj=>by have:=ND (n+1) j t h hj;show 0<(Cj (n+1) t).count (n+(j+1));rw[show n+(j+1)=n+1+j by omega];exact this
 |n,j+1,E a::t,h,hj=>by have:=ND (n+1) j t h hj;show 0<(n::Cj (n+1) t).count (n+(j+1));rw[Ib,show n+(j+1)=n+1+j by omega];omega
structure Ba(c:CfM)(s:PlM):Prop where
 le:s.next<=s.number/\s.number-s.next<=c.R
 cnt:∀y,(GA s).count y=if s.next<=y/\y<s.number then 1 else 0
 slot:s.rd.ph=2∨s.rd.ph=3->s.number-s.next<c.R
section
variable {c:CfM}{s t:PlM}{i:Nat}{x:WkM}
theorem Ea(s:PlM)(y:Nat):(GA s).count y=(s.q.map Bc.num).count y+((s.wk.flatMap hW).map Bc.num).count y+(Cj s.next s.rg).count y:=by unfold GA If;rw[En,Aj,En]
theorem Ba.same(h:Ba c s)(h1:t.next=s.next)(h2:t.number=s.number)(h3:∀y,(GA t).count y=(GA s).count y)(h4:t.rd.ph=2∨t.rd.ph=3->s.number-s.next<c.R):Ba c t:=⟨by rw[h1,h2];exact h.le,λy=>by rw[h3,h1,h2];exact h.cnt y,λe=>by rw[h1,h2];exact h4 e⟩
theorem Ba.takeW(h:Ba c s)(Z:s.wk[i]?=E x)(X:x.ph=1):Ba c (takeW s i):=by
 have h1:hW x=[]:=by unfold hW;rw[Lb om]
 unfold Proofs.YtaamacoicojhnaaGreat.takeW
 cases Y:s.q with
 |nil=>
  refine h.same rfl rfl (λy=>?_) h.slot;rw[Ea,Ea];have:=Ii Bc.num Z (λw=>{w with ph:=4}) y;rw[h1]at this;have h2:hW {x with ph:=4}=[]:=rfl;rw[h2]at this;simp only[setW];simp at this⊢;omega
 |cons b q=>
  refine h.same rfl rfl (λy=>?_) h.slot;rw[Ea,Ea,Y];have:=Ii Bc.num Z (λw=>{w with ph:=2,blk:=b}) y;rw[h1]at this;have h2:hW {x with ph:=2,blk:=b}=[b]:=rfl;rw[h2]at this;simp only[setW,BO,DE,Iw,List.count_cons]at this⊢;omega
theorem Ba.scanW(h:Ba c s)(X:s.wk[i]?=E x)(Y:x.ph=2):Ba c (scanW c s i):=by
 unfold Proofs.YtaamacoicojhnaaGreat.scanW;refine h.same rfl rfl (λy=>?_) h.slot;rw[Ea,Ea];have:=Ii Bc.num X (λw=>{w with node:=(c.scan w.blk.start w.blk.warm w.blk.data w.node w.done).1,done:=(c.scan w.blk.start w.blk.warm w.blk.data w.node w.done).2.1,hits:=w.hits++(c.scan w.blk.start w.blk.warm w.blk.data w.node w.done).2.2.1,ph:=if(c.scan w.blk.start w.blk.warm w.blk.data w.node w.done).2.2.2 then 3 else w.ph}) y;have h1:hW x=[x.blk]:=by unfold hW;rw[Lc (.inl Y)]
 have h2:∀(n d:Nat)(Z:List AF)(b:Bool),hW {x with node:=n,done:=d,hits:=Z,ph:=if b then 3 else x.ph}=[x.blk]:=λn d Z b=>by unfold hW;rw[Lc (by cases b<;>simp[Y])]
 rw[h1,h2]at this;simp only[setW];omega
theorem Ba.place(h:Ba c s)(D:lc s.rg=c.R)(N:s.wk[i]?=E x)(J:x.ph=2∨x.ph=3):s.next<=x.blk.num/\x.blk.num<s.number/\x.blk.num-s.next<c.R/\s.rg[x.blk.num-s.next]?=E O:=by
 have h1:hW x=[x.blk]:=by unfold hW;rw[Lc J]
 have V:=h.cnt x.blk.num;rw[Ea]at V;have I:0<((s.wk.flatMap hW).map Bc.num).count x.blk.num:=Iv.2 (Be.2 ⟨x.blk,Ir.2 ⟨x,List.mem_of_getElem? N,by rw[h1];simp⟩,rfl⟩);have Z:s.next<=x.blk.num/\x.blk.num<s.number:=Md λY=>by rw[Lb Y]at V;omega
 rw[Lc Z]at V;have H:=h.le;refine⟨Z.1,Z.2,by omega,?_⟩;have X:x.blk.num-s.next<lc s.rg:=by omega
 have e:s.rg[x.blk.num-s.next]?=E s.rg[x.blk.num-s.next]:=Ar X
 cases U:s.rg[x.blk.num-s.next]with
 |none=>rw[e,U]
 |some r=>
  have:=ND s.next _ s.rg r (by rw[e,U]);rw[show s.next+(x.blk.num-s.next)=x.blk.num by omega]at this;omega
theorem Ba.putWM(h:Ba c s)(X:lc s.rg=c.R)(Z:s.wk[i]?=E x)(Y:x.ph=2∨x.ph=3):Ba c (putWM s i):=by
 obtain⟨p1,p2,p3,p4⟩:=h.place X Z Y;have h1:hW x=[x.blk]:=by unfold hW;rw[Lc Y]
 unfold Proofs.YtaamacoicojhnaaGreat.putWM;rw[Z];dsimp only;rw[Ly (s:={s with rg:=s.rg.set (x.blk.num-s.next) (E x.hits)}) Z];refine h.same rfl rfl (λy=>?_) h.slot;rw[Ea,Ea];have h3:=Ii Bc.num Z (λ_=>wk0 1) y;have h2:hW (wk0 1)=[]:=rfl;rw[h1,h2,BO,DE,KO]at h3;have h4:=abZ s.next _ s.rg x.hits y p4;rw[show s.next+(x.blk.num-s.next)=x.blk.num by omega]at h4;simp only[setW,Bv,DE,Iw]at h3⊢;omega
end
section
variable {c:CfM}{s t:PlM}{i k:Nat}{x:WkM}
theorem Ha{s t:PlM}(h1:t.q=s.q)(h2:t.wk=s.wk)(h3:t.next=s.next)(h4:t.rg=s.rg)(y:Nat):(GA t).count y=(GA s).count y:=by rw[Ea,Ea,h1,h2,h3,h4]
theorem Ba.stepR(h:Ba c s)(N:s.cancelled=M)(Z:Ck c s=G):Ba c (stepR c s):=by
 have h5:s.rd.ph≠5:=λe=>by unfold Ck at Z;rw[Lc e]at Z;cases Z
 have Y:¬s.cancelled=G:=by rw[N];decide
 unfold Proofs.YtaamacoicojhnaaGreat.stepR;rw[Lb Y]
 split
 ·rename_i h1
  have ha:Du s.next c.R s.number=G:=by unfold Ck at Z;rw[Lb h5,Lb Y,Lc h1]at Z;exact Z
  unfold Du at ha;have J:=Lj (Bool.and_eq_true_iff.1 ha).2;exact h.same rfl rfl (Ha rfl rfl rfl rfl) λ_=>J
 ·split
  ·rename_i U h2
   have V:=h.slot (.inl h2);unfold readR;dsimp only
   split
   ·split
    ·exact h.same rfl rfl (Ha rfl rfl rfl rfl) λ_=>V
    ·exact h.same rfl rfl (Ha rfl rfl rfl rfl) λ_=>V
   ·exact h.same rfl rfl (Ha rfl rfl rfl rfl) λ_=>V
  ·split
   ·rename_i U I h3
    have V:=h.slot (.inr h3);have H:=h.le;unfold putR;refine⟨⟨by show s.next<=s.number+1;omega,by show s.number+1-s.next<=c.R;omega⟩,λy=>?_,λe=>?_⟩
    ·have X:=h.cnt y;rw[Ea]at X⊢;simp only[Aj,BO,DE,En,KO]
     by_cases e:y=s.number
     ·subst e;rw[Lb om]at X;rw[Lc rfl,Lc om];omega
     ·rw[Lb e]
      by_cases e2:s.next<=y/\y<s.number
      ·rw[Lc e2]at X;rw[Lc om];omega
      ·rw[Lb e2]at X;rw[Lb om];omega
    ·have e:(if s.rd.ended then 4 else 1)=2∨(if s.rd.ended then 4 else 1)=3:=e
     split at e<;>omega
   ·exact h.same rfl rfl (Ha rfl rfl rfl rfl) λe=>by
     have e:(5:Nat)=2∨(5:Nat)=3:=e;omega
theorem Ba.takeM(h:Ba c s):Ba c (takeM s):=by
 unfold Proofs.YtaamacoicojhnaaGreat.takeM
 split
 ·rename_i X r J
  have N:=h.cnt s.next;have h0:0<(Cj s.next s.rg).count s.next:=by rw[J];exact ND s.next 0 (E X::r) X rfl
  rw[Ea]at N;have H:s.next<s.number:=Md λI=>by rw[Lb om]at N;omega
  have v:=h.le;have Y:∀t:PlM,t.q=s.q->t.wk=s.wk->t.next=s.next+1->t.rg=r++[O]->t.number=s.number->t.rd=s.rd->Ba c t:=λt A e2 U B V C=>by
   refine⟨by rw[U,V];omega,λy=>?_,λe=>?_⟩
   ·have Z:=h.cnt y;rw[Ea,J]at Z;rw[Ea,A,e2,U,B,V,abo];have D:(Cj s.next (E X::r)).count y=(Cj (s.next+1) r).count y+if y=s.next then 1 else 0:=Ib _ _ _
    rw[D]at Z
    by_cases e:y=s.next
    ·subst e;rw[Lc rfl,Lc om]at Z;rw[Lb om];omega
    ·rw[Lb e]at Z
     by_cases e2:s.next<=y/\y<s.number
     ·rw[Lc e2]at Z;rw[Lc om];omega
     ·rw[Lb e2]at Z;rw[Lb om];omega
   ·rw[C]at e;have:=h.slot e;rw[U,V];omega
  split
  ·exact Y _ rfl rfl rfl rfl rfl rfl
  ·exact Y _ rfl rfl rfl rfl rfl rfl
 ·exact h.same rfl rfl (Ha rfl rfl rfl rfl) h.slot
theorem Ba.flushM(h:Ba c s):Ba c (flushM s):=by
 unfold Proofs.YtaamacoicojhnaaGreat.flushM
 split
 ·exact h
 ·exact h.same rfl rfl (Ha rfl rfl rfl rfl) h.slot
theorem Ba.offerE(h:Ba c s):Ba c (offerE c s):=by
 unfold Proofs.YtaamacoicojhnaaGreat.offerE
 split
 ·exact h.same rfl rfl (Ha rfl rfl rfl rfl) h.slot
 ·split
  ·exact h.same rfl rfl (Ha rfl rfl rfl rfl) h.slot
  ·exact h.same rfl rfl (Ha rfl rfl rfl rfl) h.slot
theorem Ba.step(h:Ba c s)(N:CD c s)(U:Az s)(V:s.cancelled=M)(Y:Bj c s k=G):Ba c (Bi c s k):=by
 have Z:¬s.cancelled=G:=by rw[V];decide
 unfold Bj at Y;unfold Bi
 split at Y
 ·rw[Lc (by assumption)];exact h.stepR V Y
 ·rw[Lb (by assumption)]
  split at Y
  ·rw[Lc (by assumption)];obtain⟨x,X,h4⟩:=JH Y;have J:=U.wp _ x X;unfold stepW;rw[Lb Z,Fc X]
   split
   ·exact h.takeW X (by assumption)
   ·split
    ·exact h.scanW X (by assumption)
    ·exact h.putWM N.gl X om
  ·rw[Lb (by assumption)]
   split at Y
   ·rw[Lc (by assumption)];unfold stepMg;rw[Lb Z]
    split
    ·exact h.takeM
    ·exact h.flushM
   ·rw[Lb (by assumption)];unfold stepE;rw[Lb Z];exact h.offerE
end
theorem aaF:∀(k n y:Nat),(List.range' n k).count y=if n<=y/\y<n+k then 1 else 0
 |0,n,y=>by rw[Lb om];rfl
 |k+1,n,y=>by
  rw[List.range'_succ,Ib,aaF k (n+1) y]
  by_cases e:y=n
  ·rw[Lc e,Lb om,Lc om]
  ·rw[Lb e]
   by_cases e2:n+1<=y/\y<n+1+k
   ·rw[Lc e2,Lc om]
   ·rw[Lb e2,Lb om]
theorem acz:∀(n k:Nat),Cj n (List.replicate k O)=[]
 |n,0=>rfl
 |n,k+1=>by rw[Ip];exact acz (n+1) k
section
variable {c:CfM}{s t:PlM}{i k:Nat}{x:WkM}
theorem Ba.len(h:Ba c s):(GA s).length=s.number-s.next:=by
 have Y:=h.le;have Z:(GA s).Perm (List.range' s.next (s.number-s.next)):=OI.2 λy=>by rw[h.cnt y,aaF,show s.next+(s.number-s.next)=s.number by omega]
 rw[Z.length_eq,List.length_range']
theorem AW.free(hB:AW c s)(V:Ba c s)(X:Az s)(U:s.rd.ph=1)(ha:Du s.next c.R s.number=G):s.fr≠[]:=λY=>by have h1:=hB.perm.length_eq;rw[Y,Av,List.length_range]at h1;have h2:rdB s.rd=[]:=NK (by cases Z:s.rd.holds with|false=>rfl|true=>have:=X.ho.1 Z;omega);have h3:=V.len;unfold Cu at h1;unfold GA at h3;rw[h2,Av,BP]at h1;rw[List.length_append,BP]at h3;unfold Du at ha;have Z:=Lj (Bool.and_eq_true_iff.1 ha).2;omega
structure EE(c:CfM)(s:PlM):Prop where
 a:MP c s
 b:AW c s
 n:s.cancelled=false->Ba c s
theorem EE.step(h:EE c s)(Z:Bj c s k=G):EE c (Bi c s k):=by
 refine⟨h.a.step Z,?_,λY=>?_⟩
 ·have N:=Z;unfold Bj at Z;unfold Bi
  split at Z
  ·rw[Lc (by assumption)];have h5:s.rd.ph≠5:=λe=>by unfold Ck at Z;rw[Lc e]at Z;cases Z
   refine h.b.stepR h.a.r h5 λY X=>h.b.free (h.n Y) h.a.r X ?_;have V:¬s.cancelled=G:=by rw[Y];decide
   unfold Ck at Z;rw[Lb h5,Lb V,Lc X]at Z;exact Z
  ·rw[Lb (by assumption)]
   split at Z
   ·rw[Lc (by assumption)];obtain⟨x,U,h4⟩:=JH Z;have X:=h.a.r.wp _ x U;exact h.b.stepW U om
   ·rw[Lb (by assumption)]
    split at Z
    ·rw[Lc (by assumption)];exact h.b.stepMg
    ·rw[Lb (by assumption)];exact h.b.stepE
 ·rw[ae3]at Y;exact(h.n Y).step h.a.f h.a.r Y Z
theorem EE.cancel(h:EE c s):EE c (LN s):=by
 refine⟨h.a.cancel,?_,?_⟩
 ·unfold LN
  split
  ·exact h.b
  ·exact h.b.rdO rfl rfl rfl rfl rfl rfl rfl
 ·unfold LN
  split
  ·exact h.n
  ·intro e;cases e
theorem ajp(Y:1<=c.W)(rs:La):EE c (Bn c rs):=by
 have U:(List.replicate c.W (wk0 1)).flatMap Proofs.YtaamacoicojhnaaGreat.hW=[]:=by
  rw[List.flatMap_eq_nil_iff];intro x Z;rw[Ho Z]
  rfl
 have X:If (Bn c rs)=[]:=by show []++(List.replicate c.W (wk0 1)).flatMap Proofs.YtaamacoicojhnaaGreat.hW=[];rw[U];rfl
 have V:Cu (Bn c rs)=[]:=by unfold Cu;rw[X];rfl
 refine⟨ajE Y rs,⟨?_,CS,CS,λx Z=>?_,λx Z=>?_⟩,λ_=>⟨⟨AC _,AR _⟩,λy=>?_,λe=>?_⟩⟩
 ·rw[V,Cx];exact List.reverse_perm _
 ·have Z:x∈(List.range c.R).reverse:=Z;rw[List.mem_reverse,List.mem_range]at Z;exact List.getElem?_replicate_of_lt Z
 ·rw[V]at Z;cases Z
 ·have e:GA (Bn c rs)=[]:=by unfold GA;rw[X];exact acz 0 c.R
  rw[e,Lb (by show ¬(0<=y/\y<0);omega)]
  rfl
 ·have e:(1:Nat)=2∨(1:Nat)=3:=e;omega
end
theorem ah3(KB own:Nat)(rs:La):(BR ((KB:Int)-own) rs).length<=KB:=by
 cases rs with
 |nil=>exact AR _
 |cons x t=>
  show(if(KB:Int)-own<1 then [] else Dg ((KB:Int)-own) x).length<=KB
  by_cases h:(KB:Int)-own<1
  ·rw[Lc h];exact AR _
  ·rw[Lb h];unfold Dg
   by_cases h2:(lc x:Int)<=(KB:Int)-own
   ·rw[Lc h2];omega
   ·rw[Lb h2,Ag];omega
structure BJ(c:CfM)(H D n:Nat)(s:PlM):Prop where
 num:s.number<=n
 nxt:s.next<=n
 rea:s.read<=256*n
 tol:s.told<=256*n
 off:s.off<=n
 tk:s.tk.length<=n
 took:s.took.length<=n
 ahe:s.rd.ahead<=256*n
 hit:∀(i:Nat)(x:WkM),s.wk[i]?=some x->x.hits.length<=H*x.done/\x.done<=D
section
variable {c:CfM}{s t:PlM}{i k H D n:Nat}{x:WkM}
theorem BJ.up(h:BJ c H D n s):BJ c H D (n+1) s:=by obtain⟨V,a2,a3,a4,a5,X,Y,Z,a9⟩:=h;exact⟨by omega,by omega,by omega,by omega,by omega,by omega,by omega,by omega,a9⟩
theorem BJ.wk(h:BJ c H D n s)(B:t.number=s.number)(e2:t.next=s.next)(C:t.read=s.read)(I:t.told=s.told)(J:t.off=s.off)(N:t.tk=s.tk)(U:t.took=s.took)(V:t.rd.ahead=s.rd.ahead){f:WkM->WkM}(X:t.wk=s.wk.modify i f)(Z:s.wk[i]?=E x)(Y:(f x).hits.length<=H*(f x).done/\(f x).done<=D):BJ c H D n t:=by obtain⟨e,a2,a3,a4,a5,j,v,A,a9⟩:=h;exact⟨by rw[B];exact e,by rw[e2];exact a2,by rw[C];exact a3,by rw[I];exact a4,by rw[J];exact a5,by rw[N];exact j,by rw[U];exact v,by rw[V];exact A,by rw[X];exact Ju (p:=λy=>lc y.hits<=H*y.done/\y.done<=D) a9 Z Y⟩
theorem BJ.takeW(h:BJ c H D n s)(Z:s.wk[i]?=E x):BJ c H D n (takeW s i):=by
 have Y:=h.hit i x Z;unfold Proofs.YtaamacoicojhnaaGreat.takeW
 split
 ·exact h.wk (f:=λw=>{w with ph:=4}) rfl rfl rfl rfl rfl rfl rfl rfl rfl Z Y
 ·exact h.wk (f:=λw=>{w with ph:=2,blk:=_}) rfl rfl rfl rfl rfl rfl rfl rfl rfl Z Y
theorem BJ.leaveW(h:BJ c H D n s)(Z:s.wk[i]?=E x):BJ c H D n (leaveW s i):=by rw[Ly Z];exact h.wk (f:=λ_=>wk0 1) rfl rfl rfl rfl rfl rfl rfl rfl rfl Z ⟨AR _,AR _⟩
theorem BJ.putWM(h:BJ c H D n s)(Z:s.wk[i]?=E x):BJ c H D n (putWM s i):=by unfold Proofs.YtaamacoicojhnaaGreat.putWM;rw[Z];exact BJ.leaveW (s:={s with rg:=s.rg.set (x.blk.num-s.next) (E x.hits)}) ⟨h.num,h.nxt,h.rea,h.tol,h.off,h.tk,h.took,h.ahe,h.hit⟩ Z
theorem BJ.scanW(h:BJ c H D n s)(Z:s.wk[i]?=E x)(Y:x.done<=(c.scan x.blk.start x.blk.warm x.blk.data x.node x.done).2.1/\(c.scan x.blk.start x.blk.warm x.blk.data x.node x.done).2.1<=D/\(c.scan x.blk.start x.blk.warm x.blk.data x.node x.done).2.2.1.length<=H*((c.scan x.blk.start x.blk.warm x.blk.data x.node x.done).2.1-x.done)):BJ c H D (n+1) (scanW c s i):=by
 have X:=h.hit i x Z;unfold Proofs.YtaamacoicojhnaaGreat.scanW;refine h.up.wk (f:=λw=>{w with node:=(c.scan w.blk.start w.blk.warm w.blk.data w.node w.done).1,done:=(c.scan w.blk.start w.blk.warm w.blk.data w.node w.done).2.1,hits:=w.hits++(c.scan w.blk.start w.blk.warm w.blk.data w.node w.done).2.2.1,ph:=if(c.scan w.blk.start w.blk.warm w.blk.data w.node w.done).2.2.2 then 3 else w.ph}) rfl rfl rfl rfl rfl rfl rfl rfl rfl Z ?_;dsimp only;refine⟨?_,Y.2.1⟩;rw[List.length_append];have e:H*x.done+H*((c.scan x.blk.start x.blk.warm x.blk.data x.node x.done).2.1-x.done)=H*(c.scan x.blk.start x.blk.warm x.blk.data x.node x.done).2.1:=by rw[<-Nat.mul_add];congr 1;omega
 omega
theorem BJ.stopW(h:BJ c H D n s)(Z:s.wk[i]?=E x):BJ c H D n (stopW s i):=by
 unfold Proofs.YtaamacoicojhnaaGreat.stopW;dsimp only;have Y:=h.takeW Z;obtain⟨y,X⟩:=agA Z
 repeat' split
 all_goals first|exact Y|exact h|exact Y.leaveW X|exact h.leaveW Z
theorem BJ.stepR(h:BJ c H D n s)(X:c.K<=256):BJ c H D (n+1) (stepR c s):=by
 have Z:=h.up;have h3:=h.rea;have h4:=h.tol;have h1:=h.num;unfold Proofs.YtaamacoicojhnaaGreat.stepR
 split
 ·unfold stopR shutR backR
  split
  ·exact⟨Z.num,Z.nxt,Z.rea,Z.tol,Z.off,Z.tk,Z.took,Z.ahe,Z.hit⟩
  ·exact⟨Z.num,Z.nxt,Z.rea,Z.tol,Z.off,Z.tk,Z.took,Z.ahe,Z.hit⟩
 ·split
  ·exact⟨Z.num,Z.nxt,Z.rea,Z.tol,Z.off,Z.tk,Z.took,by show s.read<=_;exact Z.rea,Z.hit⟩
  ·split
   ·have Y:=ah3 c.K s.rd.own s.rs;unfold readR;dsimp only
    split
    ·split
     ·exact⟨Z.num,Z.nxt,Z.rea,Z.tol,Z.off,Z.tk,Z.took,Z.ahe,Z.hit⟩
     ·exact⟨Z.num,Z.nxt,Z.rea,Z.tol,Z.off,Z.tk,Z.took,Z.ahe,Z.hit⟩
    ·exact⟨Z.num,Z.nxt,by dsimp only;omega,by dsimp only;omega,Z.off,Z.tk,Z.took,Z.ahe,Z.hit⟩
   ·split
    ·exact⟨by show s.number+1<=n+1;omega,Z.nxt,Z.rea,Z.tol,Z.off,Z.tk,Z.took,Z.ahe,Z.hit⟩
    ·exact⟨Z.num,Z.nxt,Z.rea,Z.tol,Z.off,Z.tk,Z.took,Z.ahe,Z.hit⟩
theorem BJ.stepMg(h:BJ c H D n s):BJ c H D (n+1) (stepMg s):=by
 have Z:=h.up;have h2:=h.nxt;unfold Proofs.YtaamacoicojhnaaGreat.stepMg takeM flushM Hr
 repeat' split
 all_goals first
  |exact⟨Z.num,Z.nxt,Z.rea,Z.tol,Z.off,Z.tk,Z.took,Z.ahe,Z.hit⟩
  |exact⟨Z.num,by show s.next+1<=n+1;omega,Z.rea,Z.tol,Z.off,Z.tk,Z.took,Z.ahe,Z.hit⟩
theorem BJ.stepE(h:BJ c H D n s):BJ c H D (n+1) (stepE c s):=by
 have Z:=h.up;have h5:=h.off;have h6:=h.tk;have h7:=h.took;unfold Proofs.YtaamacoicojhnaaGreat.stepE offerE Fr
 repeat' split
 all_goals first
  |exact⟨Z.num,Z.nxt,Z.rea,Z.tol,Z.off,Z.tk,Z.took,Z.ahe,Z.hit⟩
  |exact⟨Z.num,Z.nxt,Z.rea,Z.tol,by show s.off+1<=n+1;omega,by show(s.tk++[_]).length<=n+1;rw[List.length_append];simp;omega,by show(s.took++[_]).length<=n+1;rw[List.length_append];simp;omega,Z.ahe,Z.hit⟩
  |exact⟨Z.num,Z.nxt,Z.rea,Z.tol,by show s.off+1<=n+1;omega,Z.tk,Z.took,Z.ahe,Z.hit⟩
theorem BJ.step(h:BJ c H D n s)(X:c.K<=256)(V:∀(i:Nat)(x:WkM),s.wk[i]?=E x->x.done<=(c.scan x.blk.start x.blk.warm x.blk.data x.node x.done).2.1/\(c.scan x.blk.start x.blk.warm x.blk.data x.node x.done).2.1<=D/\(c.scan x.blk.start x.blk.warm x.blk.data x.node x.done).2.2.1.length<=H*((c.scan x.blk.start x.blk.warm x.blk.data x.node x.done).2.1-x.done))(Y:Bj c s k=G):BJ c H D (n+1) (Bi c s k):=by
 unfold Bj at Y;unfold Bi
 split at Y
 ·rw[Lc (by assumption)];exact h.stepR X
 ·rw[Lb (by assumption)]
  split at Y
  ·rw[Lc (by assumption)];obtain⟨x,Z,h4⟩:=JH Y;unfold stepW
   repeat' split
   all_goals first
    |exact(h.stopW Z).up
    |exact(h.takeW Z).up
    |exact h.scanW Z (V _ x Z)
    |exact(h.putWM Z).up
  ·rw[Lb (by assumption)]
   split at Y
   ·rw[Lc (by assumption)];exact h.stepMg
   ·rw[Lb (by assumption)];exact h.stepE
end
def FS(l:List Int):Prop:=∀x∈l,0<=x/\x<=255
theorem alg(m:Int)(rs:La)(h:∀r∈rs,FS r):FS (BR m rs):=by
 cases rs with
 |nil=>intro x Z;cases Z
 |cons r t=>
  have Y:=h r sm;show FS (if m<1 then [] else Dg m r)
  split
  ·intro x Z;cases Z
  ·unfold Dg
   split
   ·exact Y
   ·intro x Z;exact Y x (EG Z)
theorem alu(m:Int)(rs:La)(LO:Nat)(h:∀r∈rs,FS r/\lc r<=LO):∀r∈EB m rs,FS r/\lc r<=LO:=by
 cases rs with
 |nil=>intro x Y;cases Y
 |cons r t=>
  have V:=h r sm;have X:∀q∈t,FS q/\lc q<=LO:=λq Z=>h q (by simp[Z]);show ∀q∈(if m<1 then r::t else GX m r t),FS q/\lc q<=LO
  split
  ·exact h
  ·unfold GX
   split
   ·exact X
   ·intro q Z
    rcases CR.1 Z with rfl|Z
    ·exact⟨λx Y=>V.1 x (Iq Y),by rw[List.length_drop];omega⟩
    ·exact X q Z
theorem ai1(KB own:Nat)(rs:La)(h:own<=KB):own+(BR ((KB:Int)-own) rs).length<=KB:=by
 cases rs with
 |nil=>exact h
 |cons x t=>
  show own+(if(KB:Int)-own<1 then [] else Dg ((KB:Int)-own) x).length<=KB
  by_cases h1:(KB:Int)-own<1
  ·rw[Lc h1];exact h
  ·rw[Lb h1];unfold Dg
   by_cases h2:(lc x:Int)<=(KB:Int)-own
   ·rw[Lc h2];omega
   ·rw[Lb h2,Ag];omega
structure Aq(c:CfM)(L:Nat)(s:PlM):Prop where
 tal:s.rd.tail.length<=c.wm/\FS s.rd.tail
 rsb:∀r∈s.rs,FS r/\r.length<=L
 buf:(s.rd.ph=2∨s.rd.ph=3)->∃x0,s.ds[s.rd.buf]?=some x0/\x0.length=s.rd.warm+s.rd.own/\s.rd.own<=c.K/\s.rd.warm<=c.wm/\FS x0
 q:∀b∈s.q,b.data.length<=c.K+c.wm
 wd:∀(i:Nat)(x:WkM),s.wk[i]?=some x->x.blk.data.length<=c.K+c.wm
section
variable {c:CfM}{s t:PlM}{i k LO:Nat}{x:WkM}
theorem Aq.same(h:Aq c LO s)(Z:t.rd=s.rd)(e2:t.rs=s.rs)(U:t.ds=s.ds)(V:∀b∈t.q,b∈s.q)(X:t.wk=s.wk):Aq c LO t:=⟨by rw[Z];exact h.tal,by rw[e2];exact h.rsb,by rw[Z,U];exact h.buf,λb Y=>h.q b (V b Y),by rw[X];exact h.wd⟩
theorem Aq.wk(h:Aq c LO s)(Z:t.rd=s.rd)(e2:t.rs=s.rs)(J:t.ds=s.ds)(N:∀b∈t.q,b∈s.q){f:WkM->WkM}(U:t.wk=s.wk.modify i f)(Y:s.wk[i]?=E x)(X:(f x).blk.data.length<=c.K+c.wm):Aq c LO t:=⟨by rw[Z];exact h.tal,by rw[e2];exact h.rsb,by rw[Z,J];exact h.buf,λb V=>h.q b (N b V),by rw[U];exact Ju (p:=λy=>lc y.blk.data<=c.K+c.wm) h.wd Y X⟩
theorem Aq.takeW(h:Aq c LO s)(Z:s.wk[i]?=E x):Aq c LO (takeW s i):=by
 have V:=h.wd i x Z;unfold Proofs.YtaamacoicojhnaaGreat.takeW
 split
 ·exact h.wk (f:=λw=>{w with ph:=4}) rfl rfl rfl (λb U=>U) rfl Z V
 ·rename_i b q Y
  exact h.wk (f:=λw=>{w with ph:=2,blk:=b}) rfl rfl rfl (λy X=>by rw[Y];exact MT _ X) rfl Z (h.q b (by rw[Y];simp))
theorem Aq.scanW(h:Aq c LO s)(Z:s.wk[i]?=E x):Aq c LO (scanW c s i):=by have Y:=h.wd i x Z;unfold Proofs.YtaamacoicojhnaaGreat.scanW;exact h.wk (f:=λw=>{w with node:=(c.scan w.blk.start w.blk.warm w.blk.data w.node w.done).1,done:=(c.scan w.blk.start w.blk.warm w.blk.data w.node w.done).2.1,hits:=w.hits++(c.scan w.blk.start w.blk.warm w.blk.data w.node w.done).2.2.1,ph:=if(c.scan w.blk.start w.blk.warm w.blk.data w.node w.done).2.2.2 then 3 else w.ph}) rfl rfl rfl (λb X=>X) rfl Z Y
theorem AW.other(h:AW c s)(U:Az s)(Y:s.wk[i]?=E x)(V:x.ph=2∨x.ph=3)(X:s.rd.ph=2∨s.rd.ph=3):x.blk.buf≠s.rd.buf:=λe=>by
 have h1:hW x=[x.blk]:=by unfold hW;rw[Lc V]
 have Z:=h.cnt x.blk.buf;rw[EQ,KG (U.ho.2 X),KO,Lc e]at Z;have N:0<((s.wk.flatMap hW).map Bc.buf).count x.blk.buf:=Iv.2 (Be.2 ⟨x.blk,Ir.2 ⟨x,List.mem_of_getElem? Y,by rw[h1];simp⟩,rfl⟩)
 split at Z<;>omega
theorem Aq.leaveW(h:Aq c LO s)(hB:AW c s)(N:Az s)(Z:s.wk[i]?=E x)(U:x.ph=2∨x.ph=3):Aq c LO (leaveW s i):=by
 rw[Ly Z];refine⟨h.tal,h.rsb,λX=>?_,h.q,Ju (p:=λy=>lc y.blk.data<=c.K+c.wm) h.wd Z (AR _)⟩;obtain⟨Y,V,J⟩:=h.buf X;refine⟨Y,?_,J⟩;show(if Cr s.us x.blk.buf then s.ds.set x.blk.buf [] else s.ds)[s.rd.buf]?=E Y
 split
 ·rw[Gr,Lb (hB.other N Z U X)];exact V
 ·exact V
theorem Aq.putWM(h:Aq c LO s)(hB:AW c s)(Z:Az s)(Y:s.wk[i]?=E x)(X:x.ph=2∨x.ph=3):Aq c LO (putWM s i):=by unfold Proofs.YtaamacoicojhnaaGreat.putWM;rw[Y];exact Aq.leaveW (s:={s with rg:=s.rg.set (x.blk.num-s.next) (E x.hits)}) (h.same rfl rfl rfl (λb V=>V) rfl) (hB.ring _) ⟨Z.ph,Z.ho,Z.wp,Z.mp,Z.ep⟩ Y X
end
section
variable {c:CfM}{s t:PlM}{i k LO:Nat}{x:WkM}
theorem Aq.stopW(h:Aq c LO s)(hB:AW c s)(V:Az s)(Z:s.wk[i]?=E x)(J:1<=x.ph/\x.ph<=3):Aq c LO (stopW s i):=by
 unfold Proofs.YtaamacoicojhnaaGreat.stopW;rw[Fc Z]
 by_cases h1:x.ph=1
 ·dsimp only;rw[Lc h1];have Y:=h.takeW Z;have N:=hB.takeW Z h1;have U:=V.takeW Z
  cases X:s.q with
  |nil=>
   have e:(Proofs.YtaamacoicojhnaaGreat.takeW s i).wk[i]?=E {x with ph:=4}:=by unfold Proofs.YtaamacoicojhnaaGreat.takeW;rw[X];exact KW Z _
   rw[Fc e,Lc rfl];exact Y
  |cons b q=>
   have e:(Proofs.YtaamacoicojhnaaGreat.takeW s i).wk[i]?=E {x with ph:=2,blk:=b}:=by unfold Proofs.YtaamacoicojhnaaGreat.takeW;rw[X];exact KW Z _
   rw[Fc e,Lb (show ¬(2=4) by decide)];exact Y.leaveW N U e (.inl rfl)
 ·dsimp only;rw[Lb h1,Fc Z,Lb om];exact h.leaveW hB V Z om
theorem Aq.stepW(h:Aq c LO s)(hB:AW c s)(Y:Az s)(Z:s.wk[i]?=E x)(X:1<=x.ph/\x.ph<=3):Aq c LO (stepW c s i):=by
 unfold Proofs.YtaamacoicojhnaaGreat.stepW;rw[Fc Z]
 split
 ·exact h.stopW hB Y Z X
 ·split
  ·exact h.takeW Z
  ·split
   ·exact h.scanW Z
   ·exact h.putWM hB Y Z om
theorem Aq.rdN(h:Aq c LO s)(V:t.rd.tail=s.rd.tail)(e2:t.rs=s.rs)(X:¬(t.rd.ph=2∨t.rd.ph=3))(Y:t.q=s.q)(Z:t.wk=s.wk):Aq c LO t:=⟨by rw[V];exact h.tal,by rw[e2];exact h.rsb,λe=>absurd e X,by rw[Y];exact h.q,by rw[Z];exact h.wd⟩
theorem Aq.takeR(h:Aq c LO s)(hB:AW c s)(U:s.fr≠[]):Aq c LO (takeR s):=by
 obtain⟨n,Y⟩:∃n,s.fr.getLast?=E n:=⟨_,MV U⟩;have V:n∈s.fr:=by obtain⟨l,e⟩:=List.getLast?_eq_some_iff.1 Y;rw[e];simp
 have X:=hB.uf n V;have Z:n<lc s.ds:=by have:=(AP.1 X).1;rw[hB.ul]at this;rw[hB.dl];exact this
 unfold Proofs.YtaamacoicojhnaaGreat.takeR;rw[Y];refine⟨h.tal,h.rsb,λ_=>⟨s.rd.tail,?_,rfl,AR _,h.tal.1,h.tal.2⟩,h.q,h.wd⟩;show((s.ds.set n []).set n s.rd.tail)[n]?=E s.rd.tail;rw[Gr,Lc rfl,Lc (by rw[BG];exact Z)]
theorem Aq.readR(h:Aq c LO s)(D:s.rd.ph=2):Aq c LO (readR c s):=by
 obtain⟨V,X,B,I,J,N⟩:=h.buf (.inl D);have Y:=(AP.1 X).1;unfold Proofs.YtaamacoicojhnaaGreat.readR;dsimp only
 split
 ·split
  ·exact⟨h.tal,h.rsb,λ_=>⟨V,X,B,I,J,N⟩,h.q,h.wd⟩
  ·exact h.rdN rfl rfl (by show ¬((4:Nat)=2∨(4:Nat)=3);omega) rfl rfl
 ·have U:=alg ((c.K:Int)-s.rd.own) s.rs λr H=>(h.rsb r H).1;have C:=ai1 c.K s.rd.own s.rs I;refine⟨⟨by dsimp only;rw[List.length_drop];omega,λy Z=>?_⟩,alu _ _ _ h.rsb,λ_=>⟨V++BR ((c.K:Int)-s.rd.own) s.rs,?_,?_,?_,J,λy Z=>?_⟩,h.q,h.wd⟩
  ·rcases Bf.1 (Iq Z)with h1|h1
   ·exact h.tal.2 y h1
   ·exact U y h1
  ·dsimp only;rw[Gr,Lc rfl,Lc Y,DZ,X]
   rfl
  ·dsimp only;rw[List.length_append];omega
  ·dsimp only;exact C
  ·rcases Bf.1 Z with h1|h1
   ·exact N y h1
   ·exact U y h1
theorem Aq.putR(h:Aq c LO s)(Z:s.rd.ph=3):Aq c LO (putR c s):=by
 obtain⟨V,X,I,J,N,U⟩:=h.buf (.inr Z);unfold Proofs.YtaamacoicojhnaaGreat.putR;refine⟨h.tal,h.rsb,λe=>?_,λb Y=>?_,h.wd⟩
 ·have e:(if s.rd.ended then 4 else 1)=2∨(if s.rd.ended then 4 else 1)=3:=e
  split at e<;>omega
 ·rcases Bf.1 Y with h1|h1
  ·exact h.q b h1
  ·rw[Fq.1 h1];dsimp only;rw[DZ,X,CG];omega
theorem Aq.stepR(h:Aq c LO s)(hB:AW c s)(V:Az s)(h5:s.rd.ph≠5)(X:s.cancelled=M->s.rd.ph=1->s.fr≠[]):Aq c LO (stepR c s):=by
 have Z:¬((5:Nat)=2∨(5:Nat)=3):=by omega
 unfold Proofs.YtaamacoicojhnaaGreat.stepR
 split
 ·unfold stopR shutR backR
  split
  ·exact h.rdN rfl rfl Z rfl rfl
  ·exact h.rdN rfl rfl Z rfl rfl
 ·rename_i Y
  split
  ·exact h.takeR hB (X (by simpa using Y) (by assumption))
  ·split
   ·exact h.readR (by assumption)
   ·split
    ·exact h.putR (by assumption)
    ·exact h.rdN rfl rfl Z rfl rfl
theorem Aq.stepMg(h:Aq c LO s):Aq c LO (stepMg s):=by
 unfold Proofs.YtaamacoicojhnaaGreat.stepMg takeM flushM Hr
 repeat' split
 all_goals exact h.same rfl rfl rfl (λb Z=>Z) rfl
theorem Aq.stepE(h:Aq c LO s):Aq c LO (stepE c s):=by
 unfold Proofs.YtaamacoicojhnaaGreat.stepE offerE Fr
 repeat' split
 all_goals exact h.same rfl rfl rfl (λb Z=>Z) rfl
theorem Aq.step(h:Aq c LO s)(Y:EE c s)(Z:Bj c s k=G):Aq c LO (Bi c s k):=by
 unfold Bj at Z;unfold Bi
 split at Z
 ·rw[Lc (by assumption)];have h5:s.rd.ph≠5:=λe=>by unfold Ck at Z;rw[Lc e]at Z;cases Z
  refine h.stepR Y.b Y.a.r h5 λN X=>Y.b.free (Y.n N) Y.a.r X ?_;have V:¬s.cancelled=G:=by rw[N];decide
  unfold Ck at Z;rw[Lb h5,Lb V,Lc X]at Z;exact Z
 ·rw[Lb (by assumption)]
  split at Z
  ·rw[Lc (by assumption)];obtain⟨x,U,h4⟩:=JH Z;have X:=Y.a.r.wp _ x U;exact h.stepW Y.b Y.a.r U om
  ·rw[Lb (by assumption)]
   split at Z
   ·rw[Lc (by assumption)];exact h.stepMg
   ·rw[Lb (by assumption)];exact h.stepE
end
theorem aos{c:CfM}{s:PlM}{H D n LO:Nat}(V:OkC c)(J:EE c s)(Z:BJ c H D n s)(C:Aq c LO s)(hn:n<=3900)(a2:H*D<=1000000)(hL:LO<=1000000)(hH:∀(i:Nat)(x:WkM),s.wk[i]?=E x->x.done<=(c.scan x.blk.start x.blk.warm x.blk.data x.node x.done).2.1/\(c.scan x.blk.start x.blk.warm x.blk.data x.node x.done).2.1<=D/\(c.scan x.blk.start x.blk.warm x.blk.data x.node x.done).2.2.1.length<=H*((c.scan x.blk.start x.blk.warm x.blk.data x.node x.done).2.1-x.done)):OkM c s:=by
 have U:=J.a.r;have X:=J.a.f;have hB:=J.b;have w1:=V.W;have w2:=V.K;have w3:=V.R;have w4:=V.O;have w5:=V.F;have w6:=V.wm;have g1:=Z.num;have g2:=Z.nxt;have g3:=Z.rea;have g4:=Z.tol;have g5:=Z.off;have g6:=Z.tk;have g7:=Z.took;have g8:=Z.ahe;have N:=hB.perm.length_eq;rw[List.length_append,List.length_range]at N;have a1:=X.ol;refine⟨X.wl,X.gl,by omega,λx Y=>(AP.1 (hB.uf x Y)).1,by rw[hB.dl,hB.ul],by omega,by omega,by omega,by omega,λr hr=>AS (C.rsb r hr).2 hL,C.tal.1,by omega,by omega,by omega,by omega,U.ph,by omega,λh1 h2 h3=>hB.free (J.n h2) U h1 h3,λI=>?_,λh5=>by rw[X.shu,decide_eq_false h5],λi x Y=>?_,λi x Y I B=>?_,U.mp,λh1 _=>X.ml h1,λh3=>by rw[X.en,decide_eq_false h3],U.ep⟩
 ·obtain⟨A,q1,q2,j,v,y⟩:=C.buf I;refine⟨A,hB.ut _ ?_,q1,q2,j,v,y⟩;unfold Cu;rw[KG (U.ho.2 I)];simp
 ·have h1:=U.wp i x Y;have h2:=C.wd i x Y;have h3:=Z.hit i x Y;have h4:=hH i x Y;have e:H*x.done+H*((c.scan x.blk.start x.blk.warm x.blk.data x.node x.done).2.1-x.done)=H*(c.scan x.blk.start x.blk.warm x.blk.data x.node x.done).2.1:=by rw[<-Nat.mul_add];congr 1;omega
  have e2:=Nat.mul_le_mul_left H h4.2.1;exact⟨h1.1,h1.2,by omega,λ_=>by omega⟩
 ·obtain⟨p1,p2,p3,p4⟩:=(J.n B).place X.gl Y (.inr I);exact⟨p1,p3,p4,by omega⟩
theorem ajM{c:CfM}{H D:Nat}(rs:La):BJ c H D 0 (Bn c rs):=by refine⟨AC _,AC _,AC _,AC _,AC _,AC _,AC _,AC _,λi x Z=>?_⟩;have:=Ho (List.mem_of_getElem? (show(List.replicate c.W (wk0 1))[i]?=E x from Z));rw[this];exact⟨AR _,AR _⟩
theorem ak3{c:CfM}{LO:Nat}(rs:La)(h:∀r∈rs,FS r/\lc r<=LO):Aq c LO (Bn c rs):=by
 refine⟨⟨AR _,λx Z=>by cases Z⟩,h,λe=>?_,λb Y=>(by cases Y),λi x Z=>?_⟩
 ·have e:(1:Nat)=2∨(1:Nat)=3:=e;omega
 ·have:=Ho (List.mem_of_getElem? (show(List.replicate c.W (wk0 1))[i]?=E x from Z));rw[this];exact AR _
def ML(c:CfM)(H D:Nat):Prop:=∀(st wm:Nat)(Z:List Int)(z d:Nat),lc Z<=c.K+c.wm->d<=D->d<=(c.scan st wm Z z d).2.1/\(c.scan st wm Z z d).2.1<=D/\(c.scan st wm Z z d).2.2.1.length<=H*((c.scan st wm Z z d).2.1-d)
structure FC(c:CfM)(H D L n:Nat)(s:PlM):Prop where
 p:EE c s
 g:BJ c H D n s
 d:Aq c L s
section
variable {c:CfM}{s:PlM}{H D LO n k:Nat}
theorem FC.step(h:FC c H D LO n s)(X:c.K<=256)(V:ML c H D)(Z:Bj c s k=G):FC c H D LO (n+1) (Bi c s k):=⟨h.p.step Z,h.g.step X (λi x Y=>V _ _ _ _ _ (h.d.wd i x Y) (h.g.hit i x Y).2) Z,h.d.step h.p Z⟩
theorem FC.up(h:FC c H D LO n s):FC c H D LO (n+1) s:=⟨h.p,h.g.up,h.d⟩
theorem FC.pick(h:FC c H D LO n s)(Y:c.K<=256)(X:ML c H D)(m:Int):FC c H D LO (n+1) (Fi c s m):=by
 unfold Fi
 cases Z:EZ c s m with
 |none=>exact h.up
 |some k=>exact h.step Y X (aaO Z).2
theorem FC.cancel(h:FC c H D LO n s):FC c H D LO n (LN s):=by
 refine⟨h.p.cancel,?_,?_⟩
 ·unfold LN
  split
  ·exact h.g
  ·exact⟨h.g.num,h.g.nxt,h.g.rea,h.g.tol,h.g.off,h.g.tk,h.g.took,h.g.ahe,h.g.hit⟩
 ·unfold LN
  split
  ·exact h.d
  ·exact h.d.same rfl rfl rfl (λb Z=>Z) rfl
theorem FC.new(hW:1<=c.W)(rs:La)(h:∀r∈rs,FS r/\lc r<=LO):FC c H D LO 0 (Bn c rs):=⟨ajp hW rs,ajM rs,ak3 rs h⟩
theorem FC.ok(h:FC c H D LO n s)(V:OkC c)(X:n<=3900)(Z:H*D<=1000000)(U:LO<=1000000)(N:ML c H D):OkM c s:=aos V h.p h.g h.d X Z U λi x Y=>N _ _ _ _ _ (h.d.wd i x Y) (h.g.hit i x Y).2
theorem arH(s:PlM):(LN s).cancelled=G∨Fd (LN s)=G:=by
 unfold LN
 cases Z:s.cancelled with
 |true=>exact .inl Z
 |false=>
  cases ho:Fd s with
  |true=>exact .inr ho
  |false=>exact .inl rfl
end
abbrev blV(Z st wm:Int)(a:Option Addr)(n c:Nat):Array Vh:=#[R K Z,R K st,R K wm,T a n c]
def Dh(LO st wm:Int)(n:Nat):Bool:=decide (0<=st/\st<=4611686020574871551/\0<=wm/\wm<=LO-1/\wm<=st/\1<=(n:Int)-wm/\(n:Int)-wm<=256)
theorem agK{wss:La}(h:∀x∈wss,lc x<=1000000):0<=Au wss/\Au wss<=1000000:=by obtain⟨N,h1,_,h3⟩:=acs wss;have:=h3 1000000 h;omega
theorem adj{W0:Wa}{B:Nat}{fold:Bool}{wss:La}(nu st wm:Int)(a:Option Addr)(n c:Nat)(w:Wa)(h:ET W0 B fold wss w)(hn:n<=1000000) :Calls ZP 268 #[L (E ⟨B,0,O⟩),i8 (blV nu st wm a n c)] w λe w'=>e=ra (i6 (Dh (Au wss) st wm n))/\Bt w w':=by
 obtain⟨W,hW⟩:∃W,W=w.alloc (i7 (blV nu st wm a n c) 120):=⟨_,rfl⟩;have hB:Bt w W:=by rw[hW];exact AL _ _
 have hz:W.heap[w.heap.size]?=E (i7 (blV nu st wm a n c) 120 (0,0)):=by rw[hW];exact AT _ _
 have Z:Hid (∀V,Bt W V->V.cell? ⟨w.heap.size,0,O⟩=E (R K nu)/\V.cell? ⟨w.heap.size,1,O⟩=E (R K st)/\V.cell? ⟨w.heap.size,2,O⟩=E (R K wm)/\V.cell? ⟨w.heap.size,3,O⟩=E (T a n c)/\w.heap.size<V.heap.size):=λV hV=>by have h:=(hV.block _ (AD.1 hz).1).trans hz;exact⟨by simp[cell?,h],by simp[cell?,h],by simp[cell?,h],by simp[cell?,h],(AD.1 h).1⟩
 obtain⟨m0,m1⟩:=agK h.len;obtain⟨LO,hL⟩:∃n,Au wss=n:=⟨_,rfl⟩;have HU:=AA (h.below hB);have KS:Hid (∀V,Bt W V->Calls ZP 95 #[L (E ⟨B,0,O⟩)] V λe w'=>e=ra (R K LO)/\V=w'):=λV hV=>by have h:=(HU.out.below hV).longest;rw[hL]at h;exact h
 rw[hL]at m0 m1⊢;have I:=AA hB;obtain⟨j,s,v,y,A⟩:=Z.out W (AH _ _);clear hz h hB hL HU;go_enter func268,ntmps268;go_upto_region 1 with fail
 rw[<-hW];clear hW
 by_cases h0:st<0
 ·have d0:decide (st<(0:Int))=G:=by simpa using h0
  have e:Dh LO st wm n=M:=by unfold Dh;simp;omega
  have J:=AA e;clear e h0;go_wp2;go_ret;exact⟨by rw[J.out];rfl,I.out⟩
 have d0:decide (st<(0:Int))=M:=by simpa using h0
 by_cases h1:4611686020574871551<st
 ·have d1:decide ((4611686020574871551:Int)<st)=G:=by simpa using h1
  have e:Dh LO st wm n=M:=by unfold Dh;simp;omega
  have J:=AA e;clear e h0 h1;go_wp2;go_ret;exact⟨by rw[J.out];rfl,I.out⟩
 have d1:decide ((4611686020574871551:Int)<st)=M:=by simpa using h1
 go_upto_region 3 with fail
 clear d0 d1
 by_cases h2:wm<0
 ·have d2:decide (wm<(0:Int))=G:=by simpa using h2
  have e:Dh LO st wm n=M:=by unfold Dh;simp;omega
  have J:=AA e;clear e h0 h1 h2;refine Vb ?_;refine Va (S:=Bt W) kr (AN W 1) (λN=>?_);obtain⟨C,Y⟩:∃X,X=W.drew:=⟨_,rfl⟩;rw[<-Y]at N⊢;clear Y j s v y A;refine tkB 0 Z.out ?_;refine tkB 1 Z.out ?_;refine tkB 2 Z.out ?_;refine tkB 3 Z.out ?_;refine tkN 4 ?_
  try simp only[pq]
  refine tkN 5 ?_
  try simp only[pq]
  refine tkN 6 ?_
  try simp only[pq]
  refine tkN 7 ?_
  try simp only[pq]
  refine tkN 8 ?_
  try simp only[pq]
  refine tkN 9 ?_
  try simp only[pq]
  refine tkA 10 ?_;refine tkA 11 ?_;refine tkN 12 ?_
  try simp only[pq]
  refine tkN 13 ?_
  try simp only[pq]
  refine tkN 14 ?_
  try simp only[pq]
  refine tkN 15 ?_
  try simp only[pq]
  refine tkN 16 ?_
  try simp only[pq]
  refine tkA 17 ?_;refine Vd kr ?_ _;refine At ?_;have D:=AA N;go_wp2;go_ret;exact⟨by rw[J.out];rfl,I.out.trans (D.out.mono I.out.size)⟩
 have d2:decide (wm<(0:Int))=M:=by simpa using h2
 have a1:0<=wm:=by omega
 have kw:IntKind.i64.wrap (LO-1)=LO-1:=by rw[BK];omega
 by_cases h3:LO-1<wm
 ·have d3:decide (LO-1<wm)=G:=by simpa using h3
  have e:Dh LO st wm n=M:=by unfold Dh;simp;omega
  have J:=AA e;clear e h0 h1 h2 h3;refine Vb ?_;refine Va (S:=Bt W) kr (AN W 1) (λN=>?_);obtain⟨C,Y⟩:∃X,X=W.drew:=⟨_,rfl⟩;rw[<-Y]at N⊢;clear Y j s v y A;refine tkB 0 Z.out ?_;refine tkB 1 Z.out ?_;refine tkB 2 Z.out ?_;refine tkB 3 Z.out ?_;refine tkB 4 Z.out ?_;refine tkB 5 Z.out ?_;refine tkB 6 Z.out ?_;refine rdy 7 (λKB H=>?_);go_simp
  go_at_call 95;refine(KS.out C N).mono ?_;rintro e w2 ⟨rfl,rfl⟩
  refine H.out _ _ (N) (λU=>?_);clear H KB
  try simp only[pq]
  refine tkA 8 ?_;refine tkA 9 ?_;refine tkA 10 ?_;refine tkA 11 ?_;refine tkN 12 ?_
  try simp only[pq]
  refine tkN 13 ?_
  try simp only[pq]
  refine tkN 14 ?_
  try simp only[pq]
  refine tkN 15 ?_
  try simp only[pq]
  refine tkN 16 ?_
  try simp only[pq]
  refine tkA 17 ?_;refine Vd kr ?_ _;refine At ?_;have D:=AA U;go_wp2;go_ret;exact⟨by rw[J.out];rfl,I.out.trans (D.out.mono I.out.size)⟩
 have d3:decide (LO-1<wm)=M:=by simp;omega
 by_cases h4:st<wm
 ·have d4:decide (st<wm)=G:=by simpa using h4
  have e:Dh LO st wm n=M:=by unfold Dh;simp;omega
  have J:=AA e;clear e h0 h1 h2 h3 h4;refine Vb ?_;refine Va (S:=Bt W) kr (AN W 1) (λN=>?_);obtain⟨C,Y⟩:∃X,X=W.drew:=⟨_,rfl⟩;rw[<-Y]at N⊢;clear Y j s v y A;refine tkB 0 Z.out ?_;refine tkB 1 Z.out ?_;refine tkB 2 Z.out ?_;refine tkB 3 Z.out ?_;refine tkB 4 Z.out ?_;refine tkB 5 Z.out ?_;refine tkB 6 Z.out ?_;refine rdy 7 (λKB H=>?_);go_simp
  go_at_call 95;refine(KS.out C N).mono ?_;rintro e w2 ⟨rfl,rfl⟩
  refine H.out _ _ (N) (λU=>?_);clear H KB
  try simp only[pq]
  refine tkB 8 Z.out ?_;refine tkB 9 Z.out ?_;refine tkB 10 Z.out ?_;refine tkB 11 Z.out ?_;refine tkB 12 Z.out ?_;refine tkB 13 Z.out ?_;refine tkB 14 Z.out ?_;refine tkB 15 Z.out ?_;refine tkB 16 Z.out ?_;refine tkB 17 Z.out ?_;refine Vd kr ?_ _;refine At ?_;have D:=AA U;go_wp2;go_ret;exact⟨by rw[J.out];rfl,I.out.trans (D.out.mono I.out.size)⟩
 have d4:decide (st<wm)=M:=by simp;omega
 have a2:wm<=1000000:=by omega
 have e:Dh LO st wm n=(decide (1<=(n:Int)-wm)&&decide ((n:Int)-wm<=256)):=by unfold Dh;rw[Db];simp;omega
 have J:=AA e;clear e h0 h1 h2 h3 h4;refine Vb ?_;refine Va (S:=Bt W) kr (AN W 1) (λN=>?_);obtain⟨C,Y⟩:∃X,X=W.drew:=⟨_,rfl⟩;rw[<-Y]at N⊢;clear Y j s v y A;refine tkB 0 Z.out ?_;refine tkB 1 Z.out ?_;refine tkB 2 Z.out ?_;refine tkB 3 Z.out ?_;refine tkB 4 Z.out ?_;refine tkB 5 Z.out ?_;refine tkB 6 Z.out ?_;refine rdy 7 (λKB H=>?_);go_simp
 go_at_call 95;refine(KS.out C N).mono ?_;rintro e w2 ⟨rfl,rfl⟩
 refine H.out _ _ (N) (λU=>?_);clear H KB
 try simp only[pq]
 refine tkB 8 Z.out ?_;refine tkB 9 Z.out ?_;refine tkB 10 Z.out ?_;refine tkB 11 Z.out ?_;refine tkB 12 Z.out ?_;refine tkB 13 Z.out ?_;refine tkB 14 Z.out ?_;refine tkB 15 Z.out ?_;refine tkB 16 Z.out ?_;refine tkB 17 Z.out ?_;refine Vd kr ?_ _;refine At ?_;have D:=AA U;obtain⟨j,s,v,y,A⟩:=Z.out C U;clear N U d2 d3 d4
 by_cases h5:1<=(n:Int)-wm
 ·have d5:decide (1<=(n:Int)-wm)=G:=by simpa using h5
  rw[d5,FJ]at J;clear h5;go_wp2;go_ret;exact⟨by rw[J.out];rfl,I.out.trans (D.out.mono I.out.size)⟩
 ·have d5:decide (1<=(n:Int)-wm)=M:=by simpa using h5
  rw[d5,Bool.false_and]at J;clear h5;go_wp2;go_ret;exact⟨by rw[J.out];rfl,I.out.trans (D.out.mono I.out.size)⟩
abbrev prV(z d:Int):Vh:=i8 #[R K z,R K d]
def KK(N:Nat)(LO st wm:Int)(n:Nat)(z d:Int):Bool:=Dh LO st wm n&&decide ((0<=z/\z<(N:Int))/\0<=d/\d<=(n:Int))
theorem aao{W0:Wa}{B:Nat}{fold:Bool}{wss:La}(nu st wm:Int)(a:Option Addr)(n c:Nat)(z d:Int)(w:Wa)(h:ET W0 B fold wss w)(hn:n<=1000000) :Calls ZP 241 #[L (E ⟨B,0,O⟩),i8 (blV nu st wm a n c),prV z d] w λe w'=>e=ra (i6 (KK (AB wss).length (Au wss) st wm n z d))/\Bt w w':=by
 obtain⟨W,hW⟩:∃W,W=(w.alloc (i7 (blV nu st wm a n c) 120)).alloc (i7 #[R K z,R K d] 247):=⟨_,rfl⟩;have hB:Bt w W:=by rw[hW];exact((AH _ _).alloc (AC _) _).alloc sm _
 have hO:Bx w.heap.size [i7 (blV nu st wm a n c) 120,i7 #[R K z,R K d] 247] W:=by rw[hW];exact((Bx.nil _ w).snoc _ rfl).snoc _ sm
 have Z:Hid (∀V,Bt W V->V.cell? ⟨w.heap.size,0,O⟩=E (R K nu)/\V.cell? ⟨w.heap.size,1,O⟩=E (R K st)/\V.cell? ⟨w.heap.size,2,O⟩=E (R K wm)/\V.cell? ⟨w.heap.size,3,O⟩=E (T a n c)/\V.cell? ⟨w.heap.size+1,0,O⟩=E (R K z)/\V.cell? ⟨w.heap.size+1,1,O⟩=E (R K d)):=λV hV=>by have h:=hO.below hV;exact⟨h.cell (i:=0) rfl rfl,h.cell (i:=0) rfl rfl,h.cell (i:=0) rfl rfl,h.cell (i:=0) rfl rfl,h.cell (i:=1) rfl rfl,h.cell (i:=1) rfl rfl⟩
 have HU:=AA (h.below hB);obtain⟨N,hN⟩:∃k,(AB wss).length=k:=⟨_,rfl⟩;obtain⟨S,a1⟩:∃k,Dh (Au wss) st wm n=k:=⟨_,rfl⟩;have KS:Hid (∀V,Bt W V->Calls ZP 269 #[L (E ⟨B,0,O⟩)] V λe w'=>e=ra (R K (N:Int))/\V=w'):=λV hV=>by have h:=(HU.out.below hV).states;rw[hN]at h;exact h
 have KN:Hid (∀V,Bt W V->Calls ZP 268 #[L (E ⟨B,0,O⟩),i8 (blV nu st wm a n c)] V λe w'=>e=ra (i6 S)/\Bt V w'):=λV hV=>by have h:=adj nu st wm a n c V (HU.out.below hV) hn;rw[a1]at h;exact h
 unfold KK;rw[hN,a1];have A:=AA hB;clear hO h hB hN a1 HU
 cases S with
 |false=>
  have s:Hid ((M&&decide ((0<=z/\z<(N:Int))/\0<=d/\d<=(n:Int)))=M):=rfl;go_enter func241,ntmps241;go_upto_region 1 with fail
  rw[<-hW];clear hW;refine Vb ?_;refine Va (S:=Bt W) kr (AN W 1) (λJ=>?_);obtain⟨y,Y⟩:∃X,X=W.drew:=⟨_,rfl⟩;rw[<-Y]at J⊢;clear Y;refine tkB 0 Z.out ?_;refine tkB 1 Z.out ?_;refine rdy 2 (λKB I=>?_);go_simp
  go_at_call 268;refine(KN.out y J).mono ?_;rintro e j ⟨rfl,H⟩
  refine I.out _ _ (J.trans (H.mono J.size)) (λU=>?_);clear I KB
  try simp only[pq]
  refine tkA 3 ?_;refine tkN 4 ?_
  try simp only[pq]
  refine tkN 5 ?_
  try simp only[pq]
  refine tkN 6 ?_
  try simp only[pq]
  refine tkA 7 ?_;refine tkA 8 ?_;refine tkN 9 ?_
  try simp only[pq]
  refine tkN 10 ?_
  try simp only[pq]
  refine tkN 11 ?_
  try simp only[pq]
  refine tkN 12 ?_
  try simp only[pq]
  refine tkN 13 ?_
  try simp only[pq]
  refine tkA 14 ?_;refine tkA 15 ?_;refine tkN 16 ?_
  try simp only[pq]
  refine tkN 17 ?_
  try simp only[pq]
  refine tkN 18 ?_
  try simp only[pq]
  refine tkA 19 ?_;refine tkA 20 ?_;refine tkN 21 ?_
  try simp only[pq]
  refine tkN 22 ?_
  try simp only[pq]
  refine tkN 23 ?_
  try simp only[pq]
  refine tkN 24 ?_
  try simp only[pq]
  refine tkN 25 ?_
  try simp only[pq]
  refine tkN 26 ?_
  try simp only[pq]
  refine tkA 27 ?_;refine tkA 28 ?_;refine Vd kr ?_ _;refine At ?_;have v:=AA U;go_wp2;go_ret;exact⟨by rw[s.out];rfl,A.out.trans (v.out.mono A.out.size)⟩
 |true=>
  by_cases h0:0<=z
  case neg=>
   have d0:decide ((0:Int)<=z)=M:=by simpa using h0
   have e:(G&&decide ((0<=z/\z<(N:Int))/\0<=d/\d<=(n:Int)))=M:=by
    rw[FJ]
    first|exact decide_eq_false om|exact Lz om
   have s:=AA e;clear e h0;go_enter func241,ntmps241;go_upto_region 1 with fail
   rw[<-hW];clear hW;refine Vb ?_;refine Va (S:=Bt W) kr (AN W 1) (λJ=>?_);obtain⟨y,Y⟩:∃X,X=W.drew:=⟨_,rfl⟩;rw[<-Y]at J⊢;clear Y;refine tkB 0 Z.out ?_;refine tkB 1 Z.out ?_;refine rdy 2 (λKB I=>?_);go_simp
   go_at_call 268;refine(KN.out y J).mono ?_;rintro e j ⟨rfl,H⟩
   refine I.out _ _ (J.trans (H.mono J.size)) (λU=>?_);clear I KB
   try simp only[pq]
   refine tkB 3 Z.out ?_;refine tkB 4 Z.out ?_;refine tkB 5 Z.out ?_;refine tkB 6 Z.out ?_;refine tkB 7 Z.out ?_;refine tkB 8 Z.out ?_;refine tkN 9 ?_
   try simp only[pq]
   refine tkN 10 ?_
   try simp only[pq]
   refine tkN 11 ?_
   try simp only[pq]
   refine tkN 12 ?_
   try simp only[pq]
   refine tkN 13 ?_
   try simp only[pq]
   refine tkA 14 ?_;refine tkA 15 ?_;refine tkN 16 ?_
   try simp only[pq]
   refine tkN 17 ?_
   try simp only[pq]
   refine tkN 18 ?_
   try simp only[pq]
   refine tkA 19 ?_;refine tkA 20 ?_;refine tkN 21 ?_
   try simp only[pq]
   refine tkN 22 ?_
   try simp only[pq]
   refine tkN 23 ?_
   try simp only[pq]
   refine tkN 24 ?_
   try simp only[pq]
   refine tkN 25 ?_
   try simp only[pq]
   refine tkN 26 ?_
   try simp only[pq]
   refine tkA 27 ?_;refine tkA 28 ?_;refine Vd kr ?_ _;refine At ?_;have v:=AA U;go_wp2;go_ret;exact⟨by rw[s.out];rfl,A.out.trans (v.out.mono A.out.size)⟩
  have d0:decide ((0:Int)<=z)=G:=by simpa using h0
  by_cases h1:z<(N:Int)
  case neg=>
   have d1:decide (z<(N:Int))=M:=by simpa using h1
   have e:(G&&decide ((0<=z/\z<(N:Int))/\0<=d/\d<=(n:Int)))=M:=by
    rw[FJ]
    first|exact decide_eq_false om|exact Lz om
   have s:=AA e;clear e h0 h1;go_enter func241,ntmps241;go_upto_region 1 with fail
   rw[<-hW];clear hW;refine Vb ?_;refine Va (S:=Bt W) kr (AN W 1) (λJ=>?_);obtain⟨y,Y⟩:∃X,X=W.drew:=⟨_,rfl⟩;rw[<-Y]at J⊢;clear Y;refine tkB 0 Z.out ?_;refine tkB 1 Z.out ?_;refine rdy 2 (λKB I=>?_);go_simp
   go_at_call 268;refine(KN.out y J).mono ?_;rintro e j ⟨rfl,H⟩
   refine I.out _ _ (J.trans (H.mono J.size)) (λU=>?_);clear I KB
   try simp only[pq]
   refine tkB 3 Z.out ?_;refine tkB 4 Z.out ?_;refine tkB 5 Z.out ?_;refine tkB 6 Z.out ?_;refine tkB 7 Z.out ?_;refine tkB 8 Z.out ?_;refine tkB 9 Z.out ?_;refine tkB 10 Z.out ?_;refine tkB 11 Z.out ?_;refine rdy 12 (λKB I=>?_);go_simp
   go_at_call 269;refine(KS.out j U).mono ?_;rintro e w3 ⟨rfl,rfl⟩
   refine I.out _ _ (U) (λC=>?_);clear I KB
   try simp only[pq]
   refine tkA 13 ?_;refine tkA 14 ?_;refine tkA 15 ?_;refine tkN 16 ?_
   try simp only[pq]
   refine tkN 17 ?_
   try simp only[pq]
   refine tkN 18 ?_
   try simp only[pq]
   refine tkA 19 ?_;refine tkA 20 ?_;refine tkN 21 ?_
   try simp only[pq]
   refine tkN 22 ?_
   try simp only[pq]
   refine tkN 23 ?_
   try simp only[pq]
   refine tkN 24 ?_
   try simp only[pq]
   refine tkN 25 ?_
   try simp only[pq]
   refine tkN 26 ?_
   try simp only[pq]
   refine tkA 27 ?_;refine tkA 28 ?_;refine Vd kr ?_ _;refine At ?_;have v:=AA C;go_wp2;go_ret;exact⟨by rw[s.out];rfl,A.out.trans (v.out.mono A.out.size)⟩
  have d1:decide (z<(N:Int))=G:=by simpa using h1
  by_cases h2:0<=d
  case neg=>
   have d2:decide ((0:Int)<=d)=M:=by simpa using h2
   have e:(G&&decide ((0<=z/\z<(N:Int))/\0<=d/\d<=(n:Int)))=M:=by
    rw[FJ]
    first|exact decide_eq_false om|exact Lz om
   have s:=AA e;clear e h0 h1 h2;go_enter func241,ntmps241;go_upto_region 1 with fail
   rw[<-hW];clear hW;refine Vb ?_;refine Va (S:=Bt W) kr (AN W 1) (λJ=>?_);obtain⟨y,Y⟩:∃X,X=W.drew:=⟨_,rfl⟩;rw[<-Y]at J⊢;clear Y;refine tkB 0 Z.out ?_;refine tkB 1 Z.out ?_;refine rdy 2 (λKB I=>?_);go_simp
   go_at_call 268;refine(KN.out y J).mono ?_;rintro e j ⟨rfl,H⟩
   refine I.out _ _ (J.trans (H.mono J.size)) (λU=>?_);clear I KB
   try simp only[pq]
   refine tkB 3 Z.out ?_;refine tkB 4 Z.out ?_;refine tkB 5 Z.out ?_;refine tkB 6 Z.out ?_;refine tkB 7 Z.out ?_;refine tkB 8 Z.out ?_;refine tkB 9 Z.out ?_;refine tkB 10 Z.out ?_;refine tkB 11 Z.out ?_;refine rdy 12 (λKB I=>?_);go_simp
   go_at_call 269;refine(KS.out j U).mono ?_;rintro e w3 ⟨rfl,rfl⟩
   refine I.out _ _ (U) (λC=>?_);clear I KB
   try simp only[pq]
   refine tkB 13 Z.out ?_;refine tkB 14 Z.out ?_;refine tkB 15 Z.out ?_;refine tkB 16 Z.out ?_;refine tkB 17 Z.out ?_;refine tkB 18 Z.out ?_;refine tkB 19 Z.out ?_;refine tkB 20 Z.out ?_;refine tkN 21 ?_
   try simp only[pq]
   refine tkN 22 ?_
   try simp only[pq]
   refine tkN 23 ?_
   try simp only[pq]
   refine tkN 24 ?_
   try simp only[pq]
   refine tkN 25 ?_
   try simp only[pq]
   refine tkN 26 ?_
   try simp only[pq]
   refine tkA 27 ?_;refine tkA 28 ?_;refine Vd kr ?_ _;refine At ?_;have v:=AA C;go_wp2;go_ret;exact⟨by rw[s.out];rfl,A.out.trans (v.out.mono A.out.size)⟩
  have d2:decide ((0:Int)<=d)=G:=by simpa using h2
  obtain⟨D,hD⟩:∃D,decide (d<=(n:Int))=D:=⟨_,rfl⟩;have e:(G&&decide ((0<=z/\z<(N:Int))/\0<=d/\d<=(n:Int)))=D:=by rw[FJ,<-hD];simp[h0,h1,h2]
  have s:=AA e;clear e h0 h1 h2;go_enter func241,ntmps241;go_upto_region 1 with fail
  rw[<-hW];clear hW;refine Vb ?_;refine Va (S:=Bt W) kr (AN W 1) (λJ=>?_);obtain⟨y,Y⟩:∃X,X=W.drew:=⟨_,rfl⟩;rw[<-Y]at J⊢;clear Y;refine tkB 0 Z.out ?_;refine tkB 1 Z.out ?_;refine rdy 2 (λKB I=>?_);go_simp
  go_at_call 268;refine(KN.out y J).mono ?_;rintro e j ⟨rfl,H⟩
  refine I.out _ _ (J.trans (H.mono J.size)) (λU=>?_);clear I KB
  try simp only[pq]
  refine tkB 3 Z.out ?_;refine tkB 4 Z.out ?_;refine tkB 5 Z.out ?_;refine tkB 6 Z.out ?_;refine tkB 7 Z.out ?_;refine tkB 8 Z.out ?_;refine tkB 9 Z.out ?_;refine tkB 10 Z.out ?_;refine tkB 11 Z.out ?_;refine rdy 12 (λKB I=>?_);go_simp
  go_at_call 269;refine(KS.out j U).mono ?_;rintro e w3 ⟨rfl,rfl⟩
  refine I.out _ _ (U) (λC=>?_);clear I KB
  try simp only[pq]
  refine tkB 13 Z.out ?_;refine tkB 14 Z.out ?_;refine tkB 15 Z.out ?_;refine tkB 16 Z.out ?_;refine tkB 17 Z.out ?_;refine tkB 18 Z.out ?_;refine tkB 19 Z.out ?_;refine tkB 20 Z.out ?_;refine tkB 21 Z.out ?_;refine tkB 22 Z.out ?_;refine tkB 23 Z.out ?_;refine tkB 24 Z.out ?_;refine tkB 25 Z.out ?_;refine tkB 26 Z.out ?_;refine tkB 27 Z.out ?_;refine tkB 28 Z.out ?_;refine Vd kr ?_ _;refine At ?_;have v:=AA C;go_wp2;go_ret;exact⟨by rw[s.out];rfl,A.out.trans (v.out.mono A.out.size)⟩
def DI(fold:Bool)(wss:La)(st wm:Int)(n:Nat)(z d:Int):Bool:=(An fold wss&&KA (AB wss).length z 0)&&Dh (Au wss) st wm n&&decide (0<=d/\d<=(n:Int))
def Dj(st:Int)(l:List AF):List AF:=l.filter λh=>decide (st<h.1)
theorem aa5(st:Int)(l m:List AF):Dj st (l++m)=Dj st l++Dj st m:=by unfold Dj;rw[List.filter_append]
def Am(n:Nat)(d m:Int):Nat:=(min (max m 0) ((n:Int)-d)).toNat
theorem Jw{n:Nat}{d m:Int}(h0:0<=d)(h1:d<=(n:Int)):d.toNat+Am n d m<=n:=by unfold Am;omega
def CU(Z:List Int)(d m:Int):List Int:=(Z.drop d.toNat).take (Am (lc Z) d m)
def Fs(fold:Bool)(ws:La)(st wm:Int)(Z:List Int)(z d m:Int):List AF:=Dj st (BQ fold ws z.toNat (st-wm+d) (CU Z d m))
def byN(F:List Int)(j:Nat):Int:=(F[j]?).getD 0
def enN(p:Int)(F:List Int)(j:Nat):Int:=p+((min j (lc F):Nat):Int)+1
def ndN(fold:Bool)(ws:La)(z:Nat)(F:List Int)(Z:List Nat):Nat:=Bp fold ws z (Z.map (byN F))
def hsN(fold:Bool)(ws:La)(st p:Int)(F:List Int):Nat->List Nat->List AF
 |_,[]=>[]
 |z,j::r=>(if st<enN p F j then(CA ws (EN fold ws z (byN F j))).map (λv=>((enN p F j,v):AF)) else [])++hsN fold ws st p F (EN fold ws z (byN F j)) r
section
variable {fold:Bool}{ws:La}{F:List Int}
theorem alM(Z:∀x∈F,0<=x/\x<256)(j:Nat):0<=byN F j/\byN F j<256:=by
 unfold byN
 cases h:F[j]? with
 |none=>simp
 |some x=>exact Z x (List.mem_of_getElem? h)
theorem aor(p:Int)(j:Nat):p+1<=enN p F j/\enN p F j<=p+lc F+1:=by unfold enN;omega
theorem agY(z j:Nat)(Z:List Nat):ndN fold ws z F (Z++[j])=EN fold ws (ndN fold ws z F Z) (byN F j):=by
 unfold ndN;rw[Aj,No]
 rfl
theorem aoR{z:Nat}(Y:z<(AB ws).length)(Z:List Nat):ndN fold ws z F Z<(AB ws).length:=JY Y _
theorem acW(st p:Int)(j:Nat):∀(Z:List Nat)(z:Nat),hsN fold ws st p F z (Z++[j])=hsN fold ws st p F z Z++(if st<enN p F j then(CA ws (EN fold ws (ndN fold ws z F Z) (byN F j))).map (λv=>((enN p F j,v):AF)) else [])
 |[],z=>by simp[hsN,ndN,Bp]
 |i::Z,z=>by
  rw[CT];simp only[hsN];rw[acW st p j Z,CE]
  rfl
theorem aj7(st p:Int):∀(Z:List Nat)(z:Nat),z<(AB ws).length->(hsN fold ws st p F z Z).length<=(AB ws).length*lc Z
 |[],z,_=>by simp[hsN]
 |j::Z,z,hz=>by
  have Y:(AB ws)[z]?=E (AB ws)[z]:=Ar hz;have X:=(AP.1 (KU (fold:=fold) Y (byN F j)).1).1;have V:=aj7 st p Z (EN fold ws z (byN F j)) X;have h9:=LL ws (EN fold ws z (byN F j));simp only[hsN,List.length_append,Ao];rw[Nat.mul_succ]
  split
  ·rw[BP];omega
  ·simp;omega
theorem abB(z:Nat):∀k,k<=lc F->ndN fold ws z F (List.range k)=Bp fold ws z (F.take k)
 |0,_=>by simp[ndN]
 |k+1,h=>by
  have hk:F[k]?=E F[k]:=Ar om;rw[El,agY,abB z k om,LH,hk,No];unfold byN;rw[hk]
  rfl
theorem aeT(st p:Int)(z:Nat):∀k,k<=lc F->hsN fold ws st p F z (List.range k)=Dj st (BQ fold ws z p (F.take k))
 |0,_=>by simp[hsN,BQ,Dj]
 |k+1,h=>by
  have hk:F[k]?=E F[k]:=Ar om;rw[El,acW,aeT st p z k om,abB z k om,LH,hk,JE,aa5];congr 1;have Y:byN F k=F[k]:=by unfold byN;rw[hk];rfl
  have e2:enN p F k=p+((F.take k).length:Int)+1:=by unfold enN;rw[Ag]
  rw[Y,e2];show _=Dj st ((CA ws (EN fold ws (Bp fold ws z (F.take k)) F[k])).map (λv=>((p+((F.take k).length:Int)+1,v):AF))++[]);rw[Cx];unfold Dj
  split
  ·rename_i h1
   rw[List.filter_eq_self.2];intro x Z;obtain⟨v,_,rfl⟩:=Be.1 Z;exact Lz h1
  ·rename_i h1
   rw[List.filter_eq_nil_iff.2];intro x Z;obtain⟨v,_,rfl⟩:=Be.1 Z
   simpa using h1
end
theorem ahZ{n:Nat}{d k:Int}{j:Nat}(Y:d<=(n:Int))(Z:j<Am n d k):0<k-(j:Int)/\d+(j:Int)<(n:Int):=by unfold Am at Z;omega
theorem ai4{n:Nat}{d k:Int}(Z:d<=(n:Int)):¬0<k-(Am n d k:Int)∨¬d+(Am n d k:Int)<(n:Int):=by unfold Am;omega
theorem agu(Z:List Int)(d:Nat)(k:Int)(Y:d<=lc Z):(CU Z (d:Int) k).length=Am (lc Z) d k:=by unfold CU;rw[Ag,List.length_drop,Aa];have:=Jw (n:=lc Z) (d:=(d:Int)) (m:=k) om om;rw[Aa]at this;omega
theorem anR{Z:List Int}{d j:Nat}{k:Int}(X:j<(CU Z (d:Int) k).length):Z[d+j]?=E (byN (CU Z (d:Int) k) j):=by
 unfold byN;have h:(CU Z (d:Int) k)[j]?=E (CU Z (d:Int) k)[j]:=Ar X;obtain⟨y,Y⟩:∃y,(CU Z (d:Int) k)[j]=y:=⟨_,rfl⟩;rw[Y]at h;rw[h];unfold CU at h;rw[FT,Aa]at h
 split at h
 ·rw[Hm]at h;exact h
 ·cases h
section
variable {V0:Wa}{fold:Bool}{wss:La}{z:Nat}{at0:Int}{x12 x13 base:Nat}{V V':Wa}{p q v':Vh}{F Gd F':List Int}{P Q:List AF}
theorem apy{x:Nat}{c0 c1 u0 u1:Vh}{t:TypeId}(h:V.heap[x]?=E (i7 #[c0,c1] t (0,0))):((V.setCell ⟨x,0,O⟩ u0).setCell ⟨x,1,O⟩ u1).heap[x]?=E (i7 #[u0,u1] t (0,0))/\
  V.grownBy ((V.setCell ⟨x,0,O⟩ u0).setCell ⟨x,1,O⟩ u1) (E x):=by
 have g:∀(W:Wa)(o:Nat)(u:Vh),W.grownBy (W.setCell ⟨x,o,O⟩ u) (E x):=λW o u=>⟨rfl,rfl,rfl,(KeepsWalks.setCell W _ u).size,λk _ hk=>AQ _ _ _ k (λe=>hk (by rw[e]))⟩;have Y:=g V 0 u0;have X:=g (V.setCell ⟨x,0,O⟩ u0) 1 u1;refine⟨?_,⟨rfl,rfl,rfl,AS Y.size X.size,λk hk Z=>(X.block k (Af hk Y.size) Z).trans (Y.block k hk Z)⟩⟩;have h:=AJ (i:=1) (AJ (i:=0) h u0) u1
 simpa using h
end
theorem aid(g:Nat)(n:Int)(w:Wa) :Calls ZP 242 #[.pointer (E ⟨g,0,O⟩),.int .i64 n] w λe w'=>e=ra (.func (.func 270) #[] #[.pointer (E ⟨w.heap.size+1,0,O⟩),.pointer (E ⟨w.heap.size,0,O⟩)])/\
   w'=(w.alloc (i7 #[L (E ⟨g,0,O⟩)] 368)).alloc (i7 #[R K n] 3):=by
 go_enter func242,ntmps242;go_wp2;go_ret;exact⟨rfl,rfl⟩
section
attribute[local go_sem] Oper.semAt_some
attribute[local simp] Ak Al
attribute[local go_sem] Ak Al
abbrev sbQ(nu st wm:Int)(b:Option Addr)(n c:Nat)(z d:Int):Array Vh:=#[R K nu,R K st,R K wm,T b n c,R K z,R K d]
def SbX(g:Nat)(nu st wm:Int)(b:Option Addr)(n c:Nat)(z d:Int)(W:Wa):Prop:=W.heap[g]?=E (i7 (sbQ nu st wm b n c z d) 329 (0,0))
section
variable {g:Nat}{nu st wm:Int}{b:Option Addr}{n c:Nat}{z d:Int}{W V:Wa}
theorem SbX.lt(h:SbX g nu st wm b n c z d W):g<W.heap.size:=(AD.1 h).1
theorem SbX.cells(h:SbX g nu st wm b n c z d W):(W.cell? ⟨g,0,O⟩=E (R K nu)/\W.cell? ⟨g,1,O⟩=E (R K st)/\W.cell? ⟨g,2,O⟩=E (R K wm)/\W.cell? ⟨g,3,O⟩=E (T b n c)/\W.cell? ⟨g,4,O⟩=E (R K z)/\W.cell? ⟨g,5,O⟩=E (R K d))/\W.frozen? ⟨g,4,O⟩=M/\W.frozen? ⟨g,5,O⟩=M:=by unfold SbX at h;exact⟨⟨by simp[cell?,h],by simp[cell?,h],by simp[cell?,h],by simp[cell?,h],by simp[cell?,h],by simp[cell?,h]⟩,by simp[frozen?,h],by simp[frozen?,h]⟩
theorem SbX.node(h:SbX g nu st wm b n c z d W)(y:Int):SbX g nu st wm b n c y d (W.setCell ⟨g,4,O⟩ (R K y)):=by
 unfold SbX at h⊢;have:=AJ (i:=4) h (R K y)
 simpa using this
theorem SbX.done(h:SbX g nu st wm b n c z d W)(y:Int):SbX g nu st wm b n c z y (W.setCell ⟨g,5,O⟩ (R K y)):=by
 unfold SbX at h⊢;have:=AJ (i:=5) h (R K y)
 simpa using this
theorem SbX.below(h:SbX g nu st wm b n c z d W)(Z:Bt W V):SbX g nu st wm b n c z d V:=(Z.block g h.lt).trans h
theorem SbX.same{Y X:Int}(h:SbX g nu st wm b n c z d W)(U:SbX g nu st wm b n c Y X W):z=Y/\d=X:=by have a:=h.cells.1;have Z:=U.cells.1;rw[a.2.2.2.2.1,DC,Value.int.injEq]at Z;rw[a.2.2.2.2.2,DC,Value.int.injEq]at Z;exact⟨Z.2.2.2.2.1.2,Z.2.2.2.2.2.2⟩
end
def KpN(bl g:Nat)(W Z:Wa):Prop:=
 W.heap.size<=Z.heap.size/\(∀k cs t f,W.heap[k]?=E (i7 cs t f)->k≠bl->k≠g->Cb bl W≠E k->Z.heap[k]?=E (i7 cs t f))/\(Cb bl Z=Cb bl W∨∃r,Cb bl Z=E r/\W.heap.size<=r/\r<Z.heap.size)/\
  (∀nu st wm b n c z d,SbX g nu st wm b n c z d W->∃Y,SbX g nu st wm b n c Y d Z)
theorem KpN.t{bl g:Nat}{A B C:Wa}(h:KpN bl g A B)(k:KpN bl g B C):KpN bl g A C:=by
 obtain⟨h1,h2,h3,h4⟩:=h;obtain⟨j,s,v,y⟩:=k;refine⟨AS h1 j,λi cs t f J H I N=>?_,?_,λnu st wm b n c z d hs=>?_⟩
 ·refine s i cs t f (h2 i cs t f J H I N) H I ?_
  rcases h3 with e|⟨r,e,Z,_⟩
  ·rw[e];exact N
  ·rw[e];intro e2;have:=KpL.lt (bl:=bl) J
   cases e2
   omega
 ·rcases v with e|⟨r,e,Z,Y⟩
  ·rw[e]
   rcases h3 with U|⟨r,U,Z,Y⟩
   ·exact .inl U
   ·exact .inr ⟨r,U,Z,by omega⟩
  ·exact .inr ⟨r,e,by omega,Y⟩
 ·obtain⟨D,X⟩:=h4 nu st wm b n c z d hs;exact y nu st wm b n c D d X
theorem KpN.b{bl g:Nat}{w:Wa}(Z:bl<w.heap.size)(I:g<w.heap.size)(W:Wa)(l:Nat)(o o':Obj)(N:w.heap.size<=l)(h:W.heap[l]?=E o)(J:o.isCells=M)(X:o.isWalk=M):KpN bl g W (W.putObj l o'):=by obtain⟨h1,h2,h3⟩:=KpL.b (bl:=bl) Z W l o o' N h J X;refine⟨h1,λk cs t f hk Z _ U=>h2 k cs t f hk Z U,h3,λnu st wm b n c z d Y=>⟨z,?_⟩⟩;unfold SbX at Y⊢;rw[Cm om];exact Y
theorem KpN.of_below{bl g:Nat}{W V:Wa}(Z:Bt W V)(U:bl<W.heap.size):KpN bl g W V:=by obtain⟨h1,h2,h3⟩:=KpL.of_below (bl:=bl) Z U;exact⟨h1,λk cs t f hk Z _ X=>h2 k cs t f hk Z X,h3,λnu st wm b n c z d Y=>⟨z,Y.below Z⟩⟩
def PbN(g q:Nat)(r:Nat)(W Y:Wa):Prop:=r=q∨r=g/\∀nu st wm b n c z d,SbX g nu st wm b n c z d W->∃Z,SbX g nu st wm b n c z Z Y
structure EU(bl g q:Nat)(w W:World):Prop where
 size:w.heap.size<=W.heap.size
 cells:∀k cs t f,w.heap[k]?=some (.cells cs t f)->k≠bl->k≠g->k≠q->W.heap[k]?=some (.cells cs t f)
 row:∀r,Cb bl W=some r->w.heap.size<=r/\r<W.heap.size
section
variable {bl g q:Nat}{w W V:Wa}
theorem EU.body(h:EU bl g q w W)(hk:KpN bl g W V):EU bl g q w V:=by
 obtain⟨I,J,N,_⟩:=hk;refine⟨AS h.size I,λk cs t f X U Y H=>J k cs t f (h.cells k cs t f X U Y H) U Y (λe=>?_),λr Z=>?_⟩
 ·have h1:=KpL.lt (bl:=bl) X;have h2:=(h.row k e).1;omega
 ·rcases N with e|⟨D,e,h1,h2⟩
  ·rw[e]at Z;have:=h.row r Z;omega
  ·rw[e]at Z
   cases Z
   have:=h.size;omega
theorem EU.own{p:Nat}(h:EU bl g q w W)(hk:W.grownBy V (E p))(H:p=g∨p=q)(Z:bl≠p)(Y:bl<W.heap.size):EU bl g q w V:=by
 have e:Cb bl V=Cb bl W:=by unfold Cb;rw[BC (a:=⟨bl,0,O⟩) (hk.block bl Y (λe=>Z (AK e)))]
 refine⟨AS h.size hk.size,λk cs t f J I N U=>?_,λr X=>?_⟩
 ·have h1:=h.cells k cs t f J I N U;exact(hk.block k (KpL.lt (bl:=bl) h1) (λe=>by have:=AK e;omega)).trans h1
 ·rw[e]at X;have:=h.row r X;have:=hk.size;omega
theorem KpN.box{b:Nat}{t:TypeId}{v:Vh}(h:KpN bl g W V)(Z:Boxed W b t v)(h1:b≠bl)(h2:b≠g)(h3:Cb bl W≠E b):Boxed V b t v:=h.2.1 b _ _ _ Z h1 h2 h3
end
def an4(p:Int)(F:List Int)(j:Nat):Array Vh:=#[R K (enN p F j),.int .u8 (byN F j)]
theorem PbN.lt{g q k:Nat}(X:g<k)(Y:q<k):∀r W Z,PbN g q r W Z->r<k:=λr W Z h=>by rcases h with rfl|⟨rfl,_⟩<;>assumption
theorem aew{g q p2 bl:Nat}(nu st wm z0:Int)(b:Option Addr)(n c:Nat)(d:Nat)(k:Int)(B:List Int)(mm:Nat)(w0 w:Wa)(hD:Bys w0 b n B)(aw:Jh w0 w)
  (bu:w0.heap.size<=g) (bo:w0.heap.size<=q) (bz:w0.heap.size<=bl) (b6:(bl≠g/\bl≠q/\g≠q)/\p2≠g/\p2≠q/\p2≠bl) (aL:bl<w.heap.size)
  (h3:Boxed w q 3 (R K k)) (h2:Boxed w p2 368 (L (E ⟨g,0,O⟩))) (hg:SbX g nu st wm b n c z0 d w)
  (af:∀r,Cb bl w≠E r) (hd:d<=n) (hn:n<=1000000) (bm:0<=st/\st<=4611686020574871551) (bk:0<=wm/\wm<=1000000) (hk:-9223372036854775808<=k/\k<=9223372036854775807) :
  Hi Fence.wide mm ZP 270 #[L (E ⟨q,0,O⟩),L (E ⟨p2,0,O⟩)] (an4 (st-wm+d) (CU B d k)) (KpN bl g) (PbN g q) (λjs W=>js=List.range (CU B d k).length/\∃z',SbX g nu st wm b n c z' (d+((CU B d k).length:Nat)) W) (λ_=>True) ((CU B d k).length+1) w:=by
 intro l J Jx W D hJ bA hY h0;have aY:lc B=n:=hD.len;have a8:(CU B (d:Int) k).length=Am n d k:=by rw[agu B d k om,aY]
 obtain⟨⟨n1,n2,n3⟩,n4,n5,n6⟩:=b6;have au:EU bl g q w W:=⟨D.size,λk cs t f hc _ _ _=>(D.block k (KpL.lt (bl:=bl) hc)).trans hc,λr hr=>absurd hr (by unfold Cb;rw[BC (a:=⟨bl,0,O⟩) (D.block bl aL)];exact af r)⟩
 have am:=hg.lt;have ab:=h3.lt;have bf:=AA ab;have bd:Hid (∀V,EU bl g q w V->Jh w0 V):=λV hV=>⟨AS aw.1 hV.size,λk cs t f hc=>hV.cells k cs t f (aw.2 k cs t f hc) (by have:=KpL.lt (bl:=bl) hc;omega) (by have:=KpL.lt (bl:=bl) hc;omega) (by have:=KpL.lt (bl:=bl) hc;omega)⟩;have HP:Hid (∀V,EU bl g q w V->V.cell? ⟨p2,0,O⟩=E (L (E ⟨g,0,O⟩))/\bl<V.heap.size/\g<V.heap.size/\q<V.heap.size):=λV hV=>by have e2:=hV.cells p2 _ _ _ h2 n6 n4 n5;exact⟨by simp[cell?,e2],Af aL hV.size,Af am hV.size,Af ab hV.size⟩
 have HD:Hid (∀V,EU bl g q w V->Bys V b n B):=λV hV=>⟨(bd.out V hV).sl1 hD.1,hD.2⟩;have b5:Hid (SbX g nu st wm b n c z0 d W):=(D.block g am).trans hg;have b0:Hid (Boxed W q 3 (R K k)):=(D.block q ab).trans h3;have ax:Hid (∀j,j<Am n d k->B[d+j]?=E (byN (CU B (d:Int) k) j)):=λj hj=>anR (by rw[a8];exact hj);have ay:Hid (∀j,j<Am n d k->enN (st-wm+d) (CU B (d:Int) k) j=st-wm+((d:Int)+(j:Int)+1)):=λj hj=>by unfold enN;rw[a8];omega
 have aa:Hid (¬0<k-(Am n d k:Int)∨¬(d:Int)+(Am n d k:Int)<(n:Int)):=ai4 om;have aZ:Hid (∀j:Nat,j<Am n d k->0<k-(j:Int)/\(d:Int)+(j:Int)<(n:Int)):=λj hj=>ahZ om hj;have b8:d+Am n d k<=n:=by have:=Jw (n:=n) (d:=(d:Int)) (m:=k) om om;rwa[Aa]at this
 have be:Hid ((Am n d k:Int)<=max k 0):=by rw[Hid];unfold Am;omega
 rw[a8]at hY;rw[a8];obtain⟨F,hF⟩:∃F,CU B (d:Int) k=F:=⟨_,rfl⟩;obtain⟨Ta,hT⟩:∃Ta,Am n (d:Int) k=Ta:=⟨_,rfl⟩;rw[hF,hT]at hY;rw[hF]at ax ay;rw[hT]at ax ay aa aZ be b8;rw[hT];have HN:=AA (Lq n1 (Lq n2 n3));clear hD aw h3 h2 hg af D a8 aY hF hT n1 n2 n3 n4 n5 n6 am ab;obtain⟨c2,_⟩:=HP.out W au;refine callsIn_of_wp func270 rfl trivial ?_ rfl;simp only[ntmps270,Cw,Ao,Bw,Nat.reduceAdd,Nat.reduceSub,Dd,Dc,DX,Da,Av,CT]
 gi_wp2
 clear c2
 gi_loopw[4] (λs4 wr=>∃j:Nat,j<=Ta/\J (List.range j) wr/\Hid (Boxed wr q 3 (R K (k-(j:Int))))/\Hid (∃z',SbX g nu st wm b n c z' ((d:Int)+(j:Int)) wr)/\Hid (EU bl g q w wr)) (λ_ wr=>Ic q wr)
 case atStart=>exact⟨0,AR _,h0,by simpa[Hid]using b0.out,⟨z0,by simpa using b5.out⟩,au⟩
 case round=>
  clear b5 b0 au h0;obtain⟨j,bt,hj,A,HG,y⟩:=hrel;obtain⟨n1,n2,n3⟩:=HN.out;obtain⟨c2,cb,cg,cq⟩:=HP.out wr y.out;obtain⟨z,hz⟩:=HG.out;obtain⟨Y,ad⟩:∃x:Int,k-(j:Int)=x:=⟨_,rfl⟩;obtain⟨dj,s⟩:∃x:Int,(d:Int)+(j:Int)=x:=⟨_,rfl⟩
  by_cases al:j<Ta
  ·obtain⟨a1,a2⟩:=aZ.out j al;have av:=ay.out j al;obtain⟨b3,o3,cI,e3,bp,cc,ae⟩:=DG (HD.out wr y.out).1 (show d+j<n by omega);subst e3;have bx:=(HD.out wr y.out).2 cI (List.mem_of_getElem? ae);have aJ:byN F j=cI:=by have h:=ax.out j al;rw[ae]at h;exact(AK h).symm
   rw[ad]at A a1;rw[s]at hz a2 av;have e1:Hid (k-((j+1:Nat):Int)=Y-1):=by rw[Hid];omega
   have e2:Hid ((d:Int)+((j+1:Nat):Int)=dj+1):=by rw[Hid];omega
   have bw:0<=dj:=by omega
   have bv:dj<=1000000:=by omega
   have bq:Y<=9223372036854775807:=by omega
   have bg:Hid (Ic q wr=Y.toNat):=by rw[Hid];unfold Ic;rw[A.out.cell];rfl
   have ac:o3+(d+j)=o3+dj.toNat:=by omega
   rw[ac]at cc;obtain⟨⟨g0,g1,g2,g3,g4,g5⟩,f4,f5⟩:=hz.cells;have q0:=A.out.cell;have d1:decide (0<Y)=G:=by simpa using a1
   have d2:decide (dj<(n:Int))=G:=by simpa using a2
   have v:=AA hz;have HJ:=AA hj;have HC:=AA (Lq aJ (Lq av ae));have ac:=AA ac;have bj:=AA a1;clear hz hj ad s ae aJ av HG
   gi_wp2
   refine KF (FL _ _) mixed kr kr ?_
   repeat (go_big_quiet_step (fail))
   refine wpQuiet_nil ?_;rintro _ ⟨nq,rfl⟩;have Z:Bt wr (wr.drewN nq):=⟨rfl,rfl,rfl,AC _,λ_ _=>rfl⟩;obtain⟨W1,aO⟩:∃X,X=wr.drewN nq:=⟨_,rfl⟩;rw[<-aO]at Z⊢;clear aO;have N:=Jf hJ HJ.out Z;have ar:EU bl g q w W1:=y.out.body (KpN.of_below Z cb);have aU:Boxed W1 q 3 (R K Y):=(Z.block q cq).trans A.out;have U:=v.out.below Z;clear c2 cb cg cq g0 g1 g2 g3 g4 g5 f4 f5 q0 d1 d2 cc Z HJ y A v;obtain⟨c2,cb,cg,cq⟩:=HP.out W1 ar;obtain⟨⟨g0,g1,g2,g3,g4,g5⟩,f4,f5⟩:=U.cells;have HJ:=AA N;have y:=AA ar;have A:=AA aU;have v:=AA U;obtain⟨b4,o4,b9,e4,_,cc,ag⟩:=DG (HD.out W1 y.out).1 (show d+j<n by omega)
   cases e4
   have b7:b9=cI:=by have h:=HC.out.2.2;rw[ag]at h;exact AK h
   subst b7;rw[ac.out]at cc;clear N ar aU U ag
   gi_wp2
   refine KF (FL _ _) mixed kr kr ?_
   repeat (go_big_quiet_step (fail))
   refine wpQuiet_nil ?_;rintro _ ⟨aA,rfl⟩;have H:Bt W1 (W1.drewN aA):=⟨rfl,rfl,rfl,AC _,λ_ _=>rfl⟩;obtain⟨W2,aN⟩:∃X,X=W1.drewN aA:=⟨_,rfl⟩;rw[<-aN]at H⊢;clear aN;have aI:=Jf hJ HJ.out H;have aq:EU bl g q w W2:=y.out.body (KpN.of_below H cb);have aT:Boxed W2 q 3 (R K Y):=(H.block q cq).trans A.out;have ai:=v.out.below H;clear c2 cb cg cq g0 g1 g2 g3 g4 g5 f4 f5 cc H HJ y A v;obtain⟨c2,cb,cg,cq⟩:=HP.out W2 aq;obtain⟨⟨g0,g1,g2,g3,g4,g5⟩,f4,f5⟩:=ai.cells;have A:=AA aT;obtain⟨W3,C⟩:∃X,X=W2.setCell ⟨g,5,O⟩ (R K (dj+1)):=⟨_,rfl⟩;have aH:J (List.range j) W3:=by rw[C];exact aet hJ aI 5 _ (.inr ⟨rfl,λnu st wm b n c z d h=>⟨_,h.done _⟩⟩)
   have aW:EU bl g q w W3:=by rw[C];exact aq.own (BH W2 g 5 _) (.inl rfl) n1 cb
   have aS:Boxed W3 q 3 (R K Y):=by rw[C];exact(AQ W2 ⟨g,5,O⟩ _ q (Ne.symm n3)).trans A.out
   have aE:SbX g nu st wm (E ⟨b3,o3,O⟩) n c z (dj+1) W3:=by rw[C];exact ai.done _
   have HJ:=AA aH;have y:=AA aW;have v:=AA aE;have b2:=AA aS;clear aI aq aT ai aH aW aS aE
   gi_wp2
   rw[<-C];clear c2 cb cg cq g0 g1 g2 g3 g4 g5 f4 f5 C A;obtain⟨c2,cb,cg,cq⟩:=HP.out W3 y.out;obtain⟨⟨g0,g1,g2,g3,g4,g5⟩,f4,f5⟩:=v.out.cells;refine Ld (FL _ _) 19 mixed kr kr ?_;dsimp only[List.take_succ_cons,List.take_zero,List.drop_succ_cons,List.drop_zero]
   repeat (go_big_quiet_step (fail))
   refine wpQuiet_nil ?_;rintro _ ⟨az,rfl⟩;have I:Bt W3 (W3.drewN az):=⟨rfl,rfl,rfl,AC _,λ_ _=>rfl⟩;obtain⟨W4,aM⟩:∃X,X=W3.drewN az:=⟨_,rfl⟩;rw[<-aM]at I⊢;clear aM;have aG:=Jf hJ HJ.out I;have ap:Hid (EU bl g q w W4):=y.out.body (KpN.of_below I cb);have aR:Hid (Boxed W4 q 3 (R K Y)):=(I.block q cq).trans b2.out;have aD:Hid (SbX g nu st wm (E ⟨b3,o3,O⟩) n c z (dj+1) W4):=v.out.below I;obtain⟨fn,tmps,assign,body,aj,aP⟩:=hY (List.range j) j W4 aG (by rw[List.length_range];omega);dsimp only[an4]at aj;rw[HC.out.1,HC.out.2.1]at aj;clear c2 cb cg cq g0 g1 g2 g3 g4 g5 f4 f5 I HJ y b2 v aG
   gi_wp2
   refine aP.mono ?_;rintro e W5 (⟨rfl,hJ5,hk5⟩|⟨rfl,hJx5⟩)
   ·have ak:Cb bl W4≠E q:=λe=>by
     have h1:=(ap.out.row q e).1;have h2:=bf.out;omega
    have a7:Boxed W5 q 3 (R K Y):=hk5.box aR.out (Ne.symm n2) (Ne.symm n3) ak;obtain⟨z5,aC⟩:=hk5.2.2.2 _ _ _ _ _ _ _ _ aD.out;have ao:EU bl g q w W5:=ap.out.body hk5;have aK:=(HP.out W5 ao).2.1;rw[<-El]at hJ5;have q0:=a7.cell;have q1:=a7.frozen;have q2:=a7.lt;obtain⟨W6,a6⟩:∃X,X=W5.setCell ⟨q,0,O⟩ (R K (Y-1)):=⟨_,rfl⟩;have aX:J (List.range (j+1)) W6:=by rw[a6];exact aet hJ hJ5 0 _ (.inl rfl)
    have aV:EU bl g q w W6:=by rw[a6];exact ao.own (BH W5 q 0 _) (.inr rfl) n2 aK
    have aQ:Boxed W6 q 3 (R K (Y-1)):=by rw[a6];exact a7.set _
    have aB:SbX g nu st wm (E ⟨b3,o3,O⟩) n c z5 (dj+1) W6:=by rw[a6];exact(AQ W5 ⟨q,0,O⟩ _ g n3).trans aC
    have bh:=AA aV;have b1:=AA aQ;have bb:=AA aB;have bi:=AA aX;clear ap aR aD aP aj a7 aC ao hJ5 hk5 aV aQ aB aX
    gi_wp2
    rw[<-a6]
    go_roundw
    case rel=>exact⟨j+1,by omega,bi.out,by rw[Hid,e1.out];exact b1.out,⟨z5,by rw[e2.out];exact bb.out⟩,bh⟩
    case measure=>
     rw[bg.out];unfold Ic;rw[b1.out.cell];show(Y-1).toNat<Y.toNat;have h1:=bj.out;omega
   ·gi_wp2
    refine Vf (results_none rfl _ _ _) rfl ?_;exact⟨⟨_,rfl⟩,.inr ⟨_,trivial,hJx5⟩⟩
  ·obtain rfl:Ta=j:=by omega
   rw[ad]at A aa;rw[s]at hz aa;have e2:Hid ((d:Int)+(Ta:Int)=dj):=s;have q0:=A.out.cell;obtain⟨⟨g0,g1,g2,g3,g4,g5⟩,f4,f5⟩:=hz.cells;have v:=AA hz;have HJ:=AA hj;have aF:=aa.out;clear hz hj ad s HG aa
   by_cases a1:0<Y
   ·have a2:¬dj<(n:Int):=by omega
    have d1:decide (0<Y)=G:=by simpa using a1
    have d2:decide (dj<(n:Int))=M:=by simpa using a2
    clear aF a1 a2
    gi_wp2
    refine KF (FL _ _) mixed kr kr ?_
    repeat (go_big_quiet_step (fail))
    refine wpQuiet_nil ?_;rintro _ ⟨nq,rfl⟩;have Z:Bt wr (wr.drewN nq):=⟨rfl,rfl,rfl,AC _,λ_ _=>rfl⟩;have N:=Jf hJ HJ.out Z;have U:=v.out.below Z
    gi_wp2
    go_end0
    exact⟨⟨_,rfl⟩,.inl ⟨_,⟨rfl,z,by rw[e2.out];exact U⟩,N⟩⟩
   ·have d1:decide (0<Y)=M:=by simpa using a1
    clear aF a1
    gi_wp2
    refine KF (FL _ _) mixed kr kr ?_
    repeat (go_big_quiet_step (fail))
    refine wpQuiet_nil ?_;rintro _ ⟨nq,rfl⟩;have Z:Bt wr (wr.drewN nq):=⟨rfl,rfl,rfl,AC _,λ_ _=>rfl⟩;have N:=Jf hJ HJ.out Z;have U:=v.out.below Z
    gi_wp2
    go_end0
    exact⟨⟨_,rfl⟩,.inl ⟨_,⟨rfl,z,by rw[e2.out];exact U⟩,N⟩⟩
end
theorem aah{fn:Func}{p u v:Tmp}{tmps:Array Vh}{W:Wa}{B C:Nat}{x y l:Vh}(h:fn.results=#[.cell p 247,.cell u 69,.tmp v])(V:tmps.getD p undef=L (E ⟨B,0,O⟩))(X:tmps.getD u undef=L (E ⟨C,0,O⟩))(hB:W.heap[B]?=E (i7 #[x,y] 247 (0,0)))(J:W.cell? ⟨C,0,O⟩=E l) :(results fn tmps).run ZP W=.ok (ta #[i8 #[x,y],l,tmps.getD v undef]) W:=by
 have N:(loadVar 247 ⟨B,0,O⟩).run ZP W=.ok (i8 #[x,y]) W:=run_loadVar_row W B 247 247 #[x,y] (0,0) _ hB underlying247 rfl kr;have U:(loadVar 69 ⟨C,0,O⟩).run ZP W=.ok l W:=by go_simp
 have Y:tmps[p]?.getD undef=L (E ⟨B,0,O⟩):=by simpa using V
 have Z:tmps[u]?.getD undef=L (E ⟨C,0,O⟩):=by simpa using X
 simp[results,h,Y,Z,asAddr,N,U,Result.andThen]
theorem aio(p:Option Addr)(U st wm:Int)(b:Option Addr)(n c:Nat)(z d m:Int)(w:Wa)
  (hR:∀V,Bt w V->Calls ZP 241 #[L p,i8 (blV U st wm b n c),prV z d] V λe w'=>e=ra (i6 M)/\Bt V w') :
  Calls ZP 200 #[L p,i8 (blV U st wm b n c),prV z d,R K m] w λe w'=>e=ra (ta #[prV z d,T O 0 0,i6 M])/\Bt w w':=by
 obtain⟨W,hW⟩:∃W,W=((((w.alloc (i7 #[L p] 88)).alloc (i7 (blV U st wm b n c) 120)).alloc (i7 #[R K z,R K d] 247)).alloc (i7 #[R K 0,R K 0] 247)).alloc (i7 #[T O 0 0] 69):=⟨_,rfl⟩;have hB:Bt w W:=by rw[hW];exact(((((AH _ _).alloc (AC _) _).alloc sm _).alloc (by simp;omega) _).alloc (by simp;omega) _).alloc (by simp;omega) _
 have hO:Bx w.heap.size [i7 #[L p] 88,i7 (blV U st wm b n c) 120,i7 #[R K z,R K d] 247,i7 #[R K 0,R K 0] 247,i7 #[T O 0 0] 69] W:=by rw[hW];exact(((((Bx.nil _ w).snoc _ rfl).snoc _ sm).snoc _ sm).snoc _ sm).snoc _ sm
 have HC:Hid (∀V,RowKit.Below W.heap.size W V->V.cell? ⟨w.heap.size,0,O⟩=E (.pointer p)/\(V.cell? ⟨w.heap.size+1,0,O⟩=E (.int .i64 U)/\V.cell? ⟨w.heap.size+1,1,O⟩=E (.int .i64 st)/\V.cell? ⟨w.heap.size+1,2,O⟩=E (.int .i64 wm)/\V.cell? ⟨w.heap.size+1,3,O⟩=E (.slice b n c))/\(V.cell? ⟨w.heap.size+1+1,0,O⟩=E (.int .i64 z)/\V.cell? ⟨w.heap.size+1+1,1,O⟩=E (.int .i64 d))/\
   V.heap[w.heap.size+1+1+1]?=E (i7 #[R K 0,R K 0] 247 (0,0))/\V.heap[w.heap.size+1+1+1+1]?=E (i7 #[T O 0 0] 69 (0,0))/\Bt w V):=λV hV=>by
  have h:=hO.below hV;exact⟨h.cell (i:=0) rfl rfl,⟨h.cell (i:=1) rfl rfl,h.cell (i:=1) rfl rfl,h.cell (i:=1) rfl rfl,h.cell (i:=1) rfl rfl⟩,⟨h.cell (i:=2) rfl rfl,h.cell (i:=2) rfl rfl⟩,h 3 _ rfl,h 4 _ rfl,hB.trans (hV.mono hB.size)⟩
 have HR:=AA (hR W hB);obtain⟨q1,⟨j,s,v,y⟩,⟨A,B⟩,_⟩:=HC.out W (AH _ _);clear hB hO hR;go_enter func200,ntmps200;go_upto_region 1 with fail
 rw[<-hW];clear hW;go_upto_region 2 with(go_at_call 241;refine HR.out.mono ?_;rintro e Z ⟨rfl,D⟩)
 clear q1 j s v y A B HR;obtain⟨q1,⟨j,s,v,y⟩,⟨A,B⟩,Y,J,X⟩:=HC.out Z D;obtain⟨z0,z1,z2,z3⟩:Z.cell? ⟨w.heap.size+1+1+1,0,O⟩=E (R K 0)/\Z.cell? ⟨w.heap.size+1+1+1,1,O⟩=E (R K 0)/\Z.frozen? ⟨w.heap.size+1+1+1,0,O⟩=M/\Z.frozen? ⟨w.heap.size+1+1+1,1,O⟩=M:=⟨by simp[cell?,Y],by simp[cell?,Y],by simp[frozen?,Y],by simp[frozen?,Y]⟩;obtain⟨y0,y1⟩:Z.cell? ⟨w.heap.size+1+1+1+1,0,O⟩=E (T O 0 0)/\Z.frozen? ⟨w.heap.size+1+1+1+1,0,O⟩=M:=⟨by simp[cell?,J],by simp[frozen?,J]⟩;have I:=AA J;have H:=AA Y;have N:=AA X;clear Y J X;go_wp2;have h1:=AJ (i:=1) (AJ (i:=0) H.out (R K z)) (R K d);have C:((Z.setCell ⟨w.heap.size+1+1+1,0,O⟩ (R K z)).setCell ⟨w.heap.size+1+1+1,1,O⟩ (R K d)).heap[w.heap.size+1+1+1]?=E (i7 #[R K z,R K d] 247 (0,0)):=by simpa using h1
 have h2:((Z.setCell ⟨w.heap.size+1+1+1,0,O⟩ (R K z)).setCell ⟨w.heap.size+1+1+1,1,O⟩ (R K d)).heap[w.heap.size+1+1+1+1]?=E (i7 #[T O 0 0] 69 (0,0)):=
  (AQ _ _ _ _ (by show w.heap.size+1+1+1+1≠w.heap.size+1+1+1;omega)).trans ((AQ _ _ _ _ (by show w.heap.size+1+1+1+1≠w.heap.size+1+1+1;omega)).trans I.out)
 have h3:=AJ (i:=0) h2 (T O 0 0);have h4:=(AQ _ ⟨w.heap.size+1+1+1+1,0,O⟩ (T O 0 0) (w.heap.size+1+1+1) (by show w.heap.size+1+1+1≠w.heap.size+1+1+1+1;omega)).trans C;refine Vf (aah (l:=T O 0 0) rfl rfl rfl h4 (by simp[cell?,h3])) rfl ?_;exact⟨rfl,((N.out.setCell (by show w.heap.size<=w.heap.size+1+1+1;omega) _).setCell (by show w.heap.size<=w.heap.size+1+1+1;omega) _).setCell (by show w.heap.size<=w.heap.size+1+1+1+1;omega) _⟩
section
attribute[local go_sem] Oper.semAt_some
attribute[local simp] Ak Al
attribute[local go_sem] Ak Al
theorem ag1{α:Type}{B b base:Nat}{Pb:Nat->Wa->Wa->Prop}(hB:base<=B)(C:b<B)(H:∀r W N,Pb r W N->r≠b/\r<base)(f:α->List AF):BT B Pb (λs W=>amS b base (f s) W):=by
 rintro s W N row ⟨v,Y,ho⟩ U J;have Z:∀{k:Nat}{cs:Array Vh}{t:TypeId},W.heap[k]?=E (i7 cs t (0,0))->k=b∨base<=k->row≠E k:=λ{k cs t} hk I e=>by
  rcases J k e with⟨_,o,h1,h2⟩|h
  ·rw[hk]at h1;cases h1;cases h2
  ·have:=H k _ _ h;omega
 refine⟨v,(U.block b Y.lt (λe=>Z Y (.inl rfl) e.symm)).trans Y,ho.kept U ?_⟩
 rcases ho.2 with⟨rfl,_⟩|⟨g,cap,D,rfl,V,X,_⟩
 ·exact .inl rfl
 ·exact .inr λe=>Z X (.inr V) (by rw[<-e];rfl)
theorem SbX.owns{α:Type}{B g q:Nat}{X st wm:Int}{b:Option Addr}{n c:Nat}(Y:g≠q)(f:α->Int):BT B (PbN g q) (λs W=>∃d,SbX g X st wm b n c (f s) d W):=by
 rintro s W N row ⟨d,Z⟩ U V
 by_cases e:row=E g
 ·rcases V g e with⟨_,o,h1,h2⟩|h
  ·unfold SbX at Z;rw[Z]at h1;cases h1;cases h2
  ·rcases h with h|⟨_,h⟩
   ·exact absurd h Y
   ·exact h X st wm b n c (f s) d Z
 ·exact⟨d,(U.block g Z.lt (Ne.symm e)).trans Z⟩
theorem KpN.node{bl g:Nat}(Z:bl≠g)(W:Wa)(y:Int):KpN bl g W (W.setCell ⟨g,4,O⟩ (R K y)):=by refine⟨by simp[World.setCell],λk cs t f hk _ Y _=>(AQ W ⟨g,4,O⟩ _ k Y).trans hk,.inl ?_,λV st wm b n c z d X=>⟨y,X.node y⟩⟩;unfold Cb;rw[BC (a:=⟨bl,0,O⟩) (AQ W ⟨g,4,O⟩ _ bl Z)]
theorem acC{V Z:Wa}{bl g base n m:Nat}{v v':Vh}{xs ys:List Vh}(H:Boxed V bl 69 v)(X:V.ownsRow base 116 2 v m ys)(C:V.grownBy Z v.ownBlock)(a6:v'.ownBlock=v.ownBlock∨v'.ownBlock=E V.heap.size)
  (Y:Z.ownsRow base 116 2 v' n xs) (a1:bl<base) (j:g<base) (a2:bl≠g) (a7:base<=V.heap.size) :
  KpN bl g V (Z.setCell ⟨bl,0,O⟩ v')/\Boxed Z bl 69 v/\Boxed (Z.setCell ⟨bl,0,O⟩ v') bl 69 v'/\(Z.setCell ⟨bl,0,O⟩ v').ownsRow base 116 2 v' n xs/\KeepsOthers V (Z.setCell ⟨bl,0,O⟩ v')/\(∀k,k<base->k≠bl->(Z.setCell ⟨bl,0,O⟩ v').heap[k]?=V.heap[k]?)/\base<=Z.heap.size:=by
 have B:∀k,k<base->v.ownBlock≠E k:=λk hk e=>by have:=(BA X k e).1;omega
 have N:Boxed Z bl 69 v:=(C.block bl H.lt (λe=>B bl a1 e.symm)).trans H;have hs:V.heap.size<=Z.heap.size:=C.size;have J:(Z.setCell ⟨bl,0,O⟩ v').heap.size=Z.heap.size:=by simp[World.setCell]
 have e1:Cb bl V=v.ownBlock:=by unfold Cb;rw[H.cell];rfl
 have e2:Cb bl (Z.setCell ⟨bl,0,O⟩ v')=v'.ownBlock:=by unfold Cb;rw[(N.set v').cell];rfl
 have U:∀k,k<base->k≠bl->(Z.setCell ⟨bl,0,O⟩ v').heap[k]?=V.heap[k]?:=λk hk I=>(AQ Z ⟨bl,0,O⟩ v' k I).trans (C.block k om (λe=>B k hk e.symm));have s:=BH Z bl 0 v';refine⟨⟨by rw[J];exact hs,λk cs t f hk hb _ hr=>?_,?_,λnu st wm b n c z d A=>⟨z,(U g j (Ne.symm a2)).trans A⟩⟩,N,N.set v',Y.kept s (.inr λe=>by have:=(BA Y bl e).1;omega),⟨by rw[J];exact hs,λk o ho hc=>?_⟩,U,by omega⟩
 ·rw[e1]at hr;rw[AQ Z ⟨bl,0,O⟩ v' k hb,C.block k (KpL.lt (bl:=bl) hk) (λe=>hr e.symm)];exact hk
 ·rw[e1,e2,J]
  rcases a6 with h|h
  ·exact .inl h
  ·refine .inr ⟨_,h,AC _,?_⟩;have:=(BA Y _ h).2;exact this
 ·have I:k≠bl:=λe=>by rw[e]at ho;unfold Boxed at H;rw[H]at ho;cases ho;cases hc
  have y:=(AD.1 ho).1;rw[AQ Z ⟨bl,0,O⟩ v' k I];refine(C.block k y (λe=>?_)).trans ho
  rcases X.2 with⟨h0,_⟩|⟨g',cap,a8,h0,_,D,_⟩
  ·rw[h0]at e;cases e
  ·rw[h0]at e;have e':k=g':=by simpa[Value.ownBlock]using e
   rw[e',D]at ho
   cases ho
   cases hc
theorem afi{W0:Wa}{B:Nat}{fold:Bool}{wss:La}(nu st wm:Int)(b:Option Addr)(n c z d:Nat)(m:Int)(bs:List Int)(w:Wa)(h:ET W0 B fold wss w)(hD:Bys w b n bs)(hn:n<=900000)(hr:An fold wss=G)(hm:-9223372036854775808<=m/\m<=9223372036854775807)(ao:KK (AB wss).length (Au wss) st wm n z d=G) :Calls ZP 200 #[L (E ⟨B,0,O⟩),i8 (blV nu st wm b n c),prV (z:Int) (d:Int),R K m] w λe w'=>∃v,e=ra (ta #[prV (Bp fold wss z (CU bs d m):Nat) (d+(Am n d m:Nat)),v,i6 (decide ((d:Int)+(Am n d m:Nat)=(n:Int)))])/\Ax w' w.heap.size v (Fs fold wss st wm bs z d m)/\Bt w w':=by
 obtain⟨i0,hi,bR,bQ,bP⟩:=Ve IG;obtain⟨W,hW⟩:∃W,W=((((w.alloc (i7 #[L (E ⟨B,0,O⟩)] 88)).alloc (i7 (blV nu st wm b n c) 120)).alloc (i7 #[R K (z:Int),R K (d:Int)] 247)).alloc (i7 #[R K 0,R K 0] 247)).alloc (i7 #[T O 0 0] 69):=⟨_,rfl⟩;have hB:Bt w W:=by rw[hW];exact(((((AH _ _).alloc (AC _) _).alloc sm _).alloc (by simp;omega) _).alloc (by simp;omega) _).alloc (by simp;omega) _
 have cA:W.heap.size=w.heap.size+1+1+1+1+1:=by rw[hW];simp
 have hO:Bx w.heap.size [i7 #[L (E ⟨B,0,O⟩)] 88,i7 (blV nu st wm b n c) 120,i7 #[R K (z:Int),R K (d:Int)] 247,i7 #[R K 0,R K 0] 247,i7 #[T O 0 0] 69] W:=by rw[hW];exact(((((Bx.nil _ w).snoc _ rfl).snoc _ sm).snoc _ sm).snoc _ sm).snoc _ sm
 have HC:Hid (∀V,RowKit.Below W.heap.size W V->V.cell? ⟨w.heap.size,0,O⟩=E (.pointer (E ⟨B,0,O⟩))/\(V.cell? ⟨w.heap.size+1,0,O⟩=E (.int .i64 nu)/\V.cell? ⟨w.heap.size+1,1,O⟩=E (.int .i64 st)/\V.cell? ⟨w.heap.size+1,2,O⟩=E (.int .i64 wm)/\V.cell? ⟨w.heap.size+1,3,O⟩=E (.slice b n c))/\(V.cell? ⟨w.heap.size+1+1,0,O⟩=E (.int .i64 (z:Int))/\V.cell? ⟨w.heap.size+1+1,1,O⟩=E (.int .i64 (d:Int)))/\
   V.heap[w.heap.size]?=E (i7 #[L (E ⟨B,0,O⟩)] 88 (0,0))/\V.heap[w.heap.size+1+1+1]?=E (i7 #[R K 0,R K 0] 247 (0,0))/\V.heap[w.heap.size+1+1+1+1]?=E (i7 #[T O 0 0] 69 (0,0))/\Bt w V):=λV N=>by
  have h:=hO.below N;exact⟨h.cell (i:=0) rfl rfl,⟨h.cell (i:=1) rfl rfl,h.cell (i:=1) rfl rfl,h.cell (i:=1) rfl rfl,h.cell (i:=1) rfl rfl⟩,⟨h.cell (i:=2) rfl rfl,h.cell (i:=2) rfl rfl⟩,h 0 _ rfl,h 3 _ rfl,h 4 _ rfl,hB.trans (N.mono hB.size)⟩
 have HR:=AA (aao nu st wm b n c z d W (h.below hB) om);rw[ao]at HR;unfold KK at ao;rw[Bq]at ao;obtain⟨b8,c7⟩:=ao;have cy:=Lj c7;have cx:z<(AB wss).length:=by omega
 have cD:d<=n:=by omega
 obtain⟨s1,s2,s3,s4,s5,s6,s7⟩:=Lj b8;have cH:=(agK h.len).2;have bT:wm<=1000000:=by omega
 have ce:lc bs=n:=hD.len;have al:(CU bs (d:Int) m).length=Am n d m:=by rw[agu bs d m om,ce]
 have hT:=Jw (n:=n) (d:=(d:Int)) (m:=m) om om;rw[Aa]at hT;have bG:∀x∈CU bs (d:Int) m,0<=x/\x<256:=λx hx=>by have:=hD.2 x (Iq (EG hx));omega
 obtain⟨F,hF⟩:∃F,CU bs (d:Int) m=F:=⟨_,rfl⟩;obtain⟨Ta,bC⟩:∃Ta,Am n (d:Int) m=Ta:=⟨_,rfl⟩;rw[hF]at al bG;rw[bC]at al hT;rw[hF,bC];have HF:=AA hF;have HU:=AA h;have HD:=AA hD;have HB:=AA hB;clear hF bC;obtain⟨q1,⟨q2,q3,q4,q5⟩,⟨q6,q7⟩,_⟩:=HC.out W (AH _ _);clear hO h hD hB b8 c7 cy s6 s7 cH ce;refine Hc func200 rfl ?_;simp only[ntmps200,Cw,Ao,Bw,Nat.reduceAdd,Nat.reduceSub,Dd,Dc,DX,Da,Av,CT];go_upto_region 1 with fail
 rw[<-hW];clear hW;go_upto_region 3 with(go_at_call 241;refine HR.out.mono ?_;rintro e w1 ⟨rfl,bA⟩)
 clear q1 q2 q3 q4 q5 q6 q7 HR;obtain⟨q1,⟨q2,q3,q4,q5⟩,⟨q6,q7⟩,q8,q9,bO,bN⟩:=HC.out w1 bA;have bv:=hm.1;have bZ:=hm.2;have cm:=AA q8;have cl:=AA q9;have bm:=AA bO;have aO:=AA bN;clear q8 q9 bO bN;go_upto_region 4 with fail
 go_wp2_with (go_at_call 242;refine(aid _ _ _).mono ?_;rintro e w' ⟨rfl,rfl⟩)
 obtain⟨J,aH⟩:∃X,X=((w1.alloc (i7 (sbQ nu st wm b n c z d) 329)).alloc (i7 #[L (E ⟨w1.heap.size,0,O⟩)] 368)).alloc (i7 #[R K m] 3):=⟨_,rfl⟩;have b0:Bx w1.heap.size [i7 (sbQ nu st wm b n c z d) 329,i7 #[L (E ⟨w1.heap.size,0,O⟩)] 368,i7 #[R K m] 3] J:=by rw[aH];exact(((Bx.nil _ w1).snoc _ rfl).snoc _ sm).snoc _ sm
 have aF:Bt w1 J:=by rw[aH];exact((AL w1 _).alloc sm _).alloc (by simp;omega) _
 have cB:J.heap.size=w1.heap.size+1+1+1:=by rw[aH];simp
 rw[show((w1.alloc (i7 #[R K nu,R K st,R K wm,T b n c,R K (z:Int),R K (d:Int)] 329)).alloc (i7 #[L (E ⟨w1.heap.size,0,O⟩)] 368)).alloc (i7 #[R K m] 3)=J from aH.symm];clear aH q1 q2 q3 q4 q5 q6 q7;have g4:SbX w1.heap.size nu st wm b n c z d J:=b0 0 _ rfl;have b2:Boxed J (w1.heap.size+1) 368 (L (E ⟨w1.heap.size,0,O⟩)):=b0 1 _ rfl;have b3:Boxed J (w1.heap.size+1+1) 3 (R K m):=b0 2 _ rfl;have bY:w.heap.size+1+1+1+1<w1.heap.size:=by have:=bA.size;omega
 have aE:Bt w J:=aO.out.trans (aF.mono aO.out.size);have ca:Jh w J:=⟨aE.size,λk cs t f hk=>(aE.block k (KpL.lt (bl:=0) hk)).trans hk⟩;have b4:Boxed J (w.heap.size+1+1+1+1) 69 (T O 0 0):=(aF.block _ om).trans bm.out;have cK:J.heap[w.heap.size]?=E (i7 #[L (E ⟨B,0,O⟩)] 88 (0,0)):=(aF.block _ om).trans cm.out;have cJ:J.heap[w.heap.size+1+1+1]?=E (i7 #[R K 0,R K 0] 247 (0,0)):=(aF.block _ om).trans cl.out;have bb:∀r,Cb (w.heap.size+1+1+1+1) J≠E r:=λr e=>by
  unfold Cb at e;rw[b4.cell]at e
  cases e
 have aC:=aew (g:=w1.heap.size) (q:=w1.heap.size+1+1) (p2:=w1.heap.size+1) (bl:=w.heap.size+1+1+1+1) nu st wm z b n c d m bs 8 w J HD.out ca om om om ⟨⟨by omega,by omega,by omega⟩,by omega,by omega,by omega⟩ b4.lt b3 b2 g4 bb cD om ⟨s1,s2⟩ ⟨s3,bT⟩ hm;rw[HF.out,al]at aC;have cL:Hid (ndN fold wss z F (List.range Ta)=Bp fold wss z F):=by rw[Hid,<-al,abB z (lc F) (AC _),Hl]
 have cq:Hid (hsN fold wss st (st-wm+d) F z (List.range Ta)=Fs fold wss st wm bs z d m):=by rw[Hid,<-al,aeT st _ z (lc F) (AC _),Hl];unfold Fs;rw[HF.out,Aa]
 have cO:=AA bG;have cr:Hid (∀j,enN (st-wm+d) F j<=4611686020574871551+900000+1/\-1000000<enN (st-wm+d) F j):=λj=>by have:=aor (F:=F) (st-wm+d) j;rw[al]at this;omega
 have ch:=AA cx;have co:Hid ((AB wss).length<=1000):=(abE hr).1;have cN:=AA (abE hr).2;obtain⟨p,hp⟩:∃p:Int,st-wm+d=p:=⟨_,rfl⟩;rw[hp]at aC cq cr;obtain⟨g,hg⟩:∃g,w1.heap.size=g:=⟨_,rfl⟩;rw[hg]at aC cB g4 bY⊢;obtain⟨bl,bz⟩:∃k,w.heap.size+1+1+1+1=k:=⟨_,rfl⟩;rw[bz]at aC b4 bY⊢;have d5:Ta<=900000:=by omega
 clear b0 aF b2 b3 ca bb cm cl bm aO HC hg hp bG al bA cA hm;have cU:w.heap.size+1+1+1<bl:=by omega
 have de:=AA bz;clear bz
 apply NL rfl (enters_of func270 kr rfl) aC (PbN.lt om om) ?hSk KpN.t (KpN.b om om) (λ_=>rfl)
  (λs V=>amS bl J.heap.size (hsN fold wss st p F z s) V/\(∃d',SbX g nu st wm b n c ((ndN fold wss z F s:Nat):Int) d' V)/\Bt w V/\(J.heap.size<=V.heap.size/\V.heap[w.heap.size]?=E (i7 #[L (E ⟨B,0,O⟩)] 88 (0,0))/\V.heap[w.heap.size+1+1+1]?=E (i7 #[R K 0,R K 0] 247 (0,0))))
  (λ_ _ _=>False)
 case wA=>exact λ_ W=>W
 case hwA=>exact λx W=>AH _ _
 case hSk=>
  rintro xs V l o o' hl ho hc ⟨e,z',hG⟩;refine⟨e,z',?_⟩;unfold SbX at hG⊢;rw[Cm om];exact hG
 case hKg=>exact λx W hW=>KpN.of_below (AH _ _) om
 case hI=>exact BT.and (ag1 (AC _) om (λr W W' hr=>by rcases hr with rfl|⟨rfl,_⟩<;>omega) (hsN fold wss st p F z)) (BT.and (SbX.owns om (λs=>((ndN fold wss z F s:Nat):Int))) (BT.and (BT.below om om (λr W W' hr=>by rcases hr with rfl|⟨rfl,_⟩<;>omega)) (BT.and (BT.size _ _ _) (BT.and (BT.block _ _ _ _ _ _ (λW W' hr=>by rcases hr with h|⟨h,_⟩<;>omega)) (BT.block _ _ _ _ _ _ (λW W' hr=>by rcases hr with h|⟨h,_⟩<;>omega))))))
 case hIx=>exact λ_ _ _ _ _ hs _ _=>hs
 case h0=>exact⟨⟨_,b4,BN _ _ _ _⟩,⟨_,g4⟩,aE,AC _,cK,cJ⟩
 case hassign=>
  intro l x W KB H;unfold an4
  gi_wp2
  exact H
 case hbody=>
  rintro l s j Wb V d8 ⟨⟨v,hv,Y⟩,⟨d',a2⟩,aI,cz,aw,au⟩ cT
  try dsimp only
  obtain⟨zc,az⟩:∃zc,ndN fold wss z F s=zc:=⟨_,rfl⟩;have b6:zc<(AB wss).length:=by rw[<-az];exact aoR ch.out s
  rw[az]at a2;obtain⟨cF,cE⟩:=alM cO.out j;obtain⟨cb,aY⟩:∃cb:Nat,byN F j=(cb:Int):=⟨(byN F j).toNat,by omega⟩;have bh:cb<256:=by omega
  obtain⟨d0,cZ⟩:=cr.out j;obtain⟨Eo,hE⟩:∃Eo,enN p F j=Eo:=⟨_,rfl⟩;obtain⟨y,hy⟩:∃y,EN fold wss zc (cb:Int)=y:=⟨_,rfl⟩;have bK:Hid (ndN fold wss z F (s++[j])=y):=by rw[Hid,agY,az,aY,hy]
  have am:Hid (hsN fold wss st p F z (s++[j])=hsN fold wss st p F z s++(if st<Eo then(CA wss y).map (λv=>((Eo,v):AF)) else [])):=by rw[Hid,acW,az,aY,hy,hE]
  have bv:=aj7 (fold:=fold) (ws:=wss) (F:=F) st p s z ch.out;have bZ:(AB wss).length*lc s<=1000*900000:=GR co.out om;obtain⟨Hp,bF⟩:∃X,hsN fold wss st p F z s=X:=⟨_,rfl⟩;rw[bF]at Y bv am;obtain⟨m0,bw⟩:∃X,lc Hp=X:=⟨_,rfl⟩;have cX:m0<=900000000:=by omega
  obtain⟨x,hx⟩:∃x,(AB wss)[zc]?=E x:=⟨_,Ar b6⟩;have bu:=(KU (fold:=fold) hx (cb:Int));have bS:=(AP.1 bu.1).1;rw[hy]at bS;have b7:Dz wss (y:Int)=CA wss y:=by unfold Dz;rw[Lc ⟨by omega,by omega⟩,Aa]
  have KS:Hid (∀X,Bt w X->Calls ZP 243 #[L (E ⟨B,0,O⟩),R K (zc:Int),.int .u8 (cb:Int)] X λe w'=>e=ra (ta #[R K (y:Int),i6 G])/\Bt X w'):=λX hX=>by have h:=(HU.out.below hX).step (zc:Int) cb bh;rw[aju (HU.out.below hX).ok hx bh,bu.2,hy]at h;exact h
  obtain⟨nw,aW⟩:∃X,(CA wss y).length=X:=⟨_,rfl⟩;have cS:nw<=1000:=by rw[<-aW];exact AS (LL wss y) (by have:=co.out;omega)
  obtain⟨D,b1⟩:∃X,(CA wss y).map (λv=>((Eo,v):AF))=X:=⟨_,rfl⟩;rw[b1]at am;have KH:Hid (∀X,Bt w X->Calls ZP 244 #[L (E ⟨B,0,O⟩),R K (y:Int),R K Eo] X λe w'=>∃(a:Option Addr)(c:Nat),e=ra (T a nw c)/\Hts w' a nw D/\Bt X w'):=λX hX=>by have h:=(HU.out.below hX).hits (y:Int) Eo (by unfold I64;omega) (cN.out _);rw[b7,b1,aW]at h;exact h.mono λe w' ⟨a,c,h1,h2,h4,h3⟩=>⟨a,c,h1,h2,h3⟩
  have ct:Hid (lc D=nw):=by rw[Hid,<-b1,BP,aW]
  have KC:Hid (∀X,Bt V X->X.cell? ⟨w.heap.size,0,O⟩=E (L (E ⟨B,0,O⟩))):=λX hX=>by have h:=(hX.block _ (AD.1 aw).1).trans aw;simp[cell?,h]
  have bL:=AA bw;have db:=AA bF;unfold Ax at Y;rw[bw]at Y;obtain⟨av,cv,rfl,_,_⟩:=SlK.own Y;have HV:=AA hv;have ay:=AA Y;have b5:=AA a2;have ag:=AA aI;have cp:=AA aw;have aN:=AA au;have bi:=hv.lt;rw[hE,aY];obtain⟨⟨g0,g1,g2,g3,g4,g5⟩,f4,f5⟩:=a2.cells;have c0:=KC.out V (AH _ _);clear az b6 cF cE hE aY hy bv bZ bF bw hx bu bS b7 aW b1 hv Y a2 aI aw au
  gi_wp2_with fail
  refine(callsIn_wide.2 (KS.out V ag.out)).mono ?_;rintro e w2 ⟨rfl,a1⟩;clear g0 g1 g2 g3 g4 g5 f4 f5 c0;have aB:=b5.out.below a1;obtain⟨⟨g0,g1,g2,g3,g4,g5⟩,f4,f5⟩:=aB.cells;obtain⟨W5,aj⟩:∃X,X=w2.setCell ⟨g,4,O⟩ (R K (y:Int)):=⟨_,rfl⟩;have cY:g<V.heap.size:=b5.out.lt;have a7:=BH w2 g 4 (R K (y:Int));rw[<-aj]at a7;have b9:SbX g nu st wm b n c (y:Int) d' W5:=by rw[aj];exact aB.node _
  have bf:KpN bl g V W5:=by rw[aj];exact(KpN.of_below a1 bi).t (KpN.node om w2 _)
  have bV:Boxed W5 bl 69 (T av m0 cv):=(a7.block bl (by have:=a1.size;omega) (λe=>by have:=AK e;omega)).trans ((a1.block bl bi).trans HV.out);have aD:W5.ownsRow J.heap.size 116 2 (T av m0 cv) m0 (AV Hp):=(DJ ay.out a1).kept a7 (.inr λe=>by have:=(BA ay.out g e).1;omega);have bj:Bt w W5:=by rw[aj];exact(ag.out.trans (a1.mono ag.out.size)).setCell (by show w.heap.size<=g;omega) _
  have be:W5.heap[w.heap.size]?=E (i7 #[L (E ⟨B,0,O⟩)] 88 (0,0)):=(a7.block _ (by have:=a1.size;omega) (λe=>by have:=AK e;omega)).trans ((a1.block _ om).trans cp.out);have bd:W5.heap[w.heap.size+1+1+1]?=E (i7 #[R K 0,R K 0] 247 (0,0)):=(a7.block _ (by have:=a1.size;omega) (λe=>by have:=AK e;omega)).trans ((a1.block _ om).trans aN.out);have bX:V.heap.size<=W5.heap.size:=by rw[aj];have:=a1.size;simpa[World.setCell]using this
  have bg:KeepsOthers V W5:=⟨bX,λk o ho hc=>by
   have hk:=(AD.1 ho).1;refine(a7.block k (by have:=a1.size;omega) (λe=>?_)).trans ((a1.block k hk).trans ho);have e':k=g:=AK e;have h:=b5.out;unfold SbX at h;rw[e',h]at ho
   cases ho
   cases hc⟩
  have ap:=AA b9;have aS:=AA bf;have ab:=AA bV;have aP:=AA aD;have A:=AA bj;have aq:=AA be;have aM:=AA bd;have aU:=AA bg;clear a7 b9 bf bV aD bj be bd bg b5 HV ay ag cp aN KC KS aB
  by_cases aX:st<Eo
  case neg=>
   have d1:decide (st<Eo)=M:=by simpa using aX
   rw[Lb aX,Cx]at am
   gi_wp2
   rw[<-aj];refine⟨aU.out.from _,aS.out,⟨_,ab.out,?_⟩,⟨d',by rw[bK.out];exact ap.out⟩,A.out,by omega,aq.out,aM.out⟩;rw[am.out];unfold Ax;rw[bL.out];exact aP.out
  case pos=>
   have d1:decide (st<Eo)=G:=by simpa using aX
   rw[Lc aX]at am
   gi_wp2
   rw[<-aj];clear g0 g1 g2 g3 g4 g5 f4 f5;refine aa4 (S:=DW J.heap.size bl W5) mixed kr ⟨λ_ _ _=>rfl,(by show J.heap.size<=W5.heap.size;omega)⟩ (λcd=>?_);obtain⟨W6,bB⟩:∃X,X=W5.drew:=⟨_,rfl⟩;have U:Bt W5 W6:=by rw[bB];exact AN W5 1
   rw[<-bB]at cd⊢;clear bB;have aJ:Hid (∀X,DW J.heap.size bl W5 X->X.cell? ⟨w.heap.size,0,O⟩=E (L (E ⟨B,0,O⟩))/\X.cell? ⟨g,4,O⟩=E (R K (y:Int))):=λX hX=>by have h1:=(hX.1 _ om om).trans aq.out;have h2:SbX g nu st wm b n c (y:Int) d' X:=(hX.1 g om om).trans ap.out;exact⟨by simp[cell?,h1],h2.cells.1.2.2.2.2.1⟩
   refine tkB 1 aJ.out ?_;refine tkB 2 aJ.out ?_;refine tkB 3 aJ.out ?_;refine tkB 4 aJ.out ?_;refine tkB 5 aJ.out ?_;refine apE 0 6 (λKB H=>?_) (λKB H=>?_)
   ·have q3:Boxed W6 bl 69 (T av m0 cv):=(U.block bl ab.out.lt).trans ab.out;have q2:=q3.cell;clear q3;go_simp;refine H.out _ _ cd (λ_=>?_);clear H KB q2
    try simp only[pq]
    refine rdy 6 (λKB H=>?_);go_simp
    go_at_call 244;refine(KH.out W6 (A.out.trans (U.mono A.out.size))).mono ?_;rintro e w7 ⟨a9,c9,rfl,aA,ai⟩
    refine H.out _ _ (⟨λk h1 _=>(U.trans (ai.mono U.size)).block k om,AS om (U.trans (ai.mono U.size)).size⟩) (λC=>?_);clear H KB
    try simp only[pq]
    have Z:=U.trans (ai.mono U.size);have bJ:=AA aA;clear aA ai C;have C:DW J.heap.size bl W5 w7:=⟨λk h1 _=>Z.block k om,AS om Z.size⟩;have bI:Hid (Boxed w7 bl 69 (.slice av m0 cv)):=(Z.block bl ab.out.lt).trans ab.out;have ac:Hid (w7.ownsRow J.heap.size 116 2 (.slice av m0 cv) m0 (AV Hp)):=DJ aP.out Z;have af:Hid (Bt w w7):=A.out.trans (Z.mono A.out.size);have aQ:Hid (w7.heap[w.heap.size]?=E (i7 #[.pointer (E ⟨B,0,O⟩)] 88 (0,0))):=(Z.block _ om).trans aq.out;have aL:Hid (w7.heap[w.heap.size+1+1+1]?=E (i7 #[.int .i64 0,.int .i64 0] 247 (0,0))):=(Z.block _ om).trans aM.out;have aK:Hid (SbX g nu st wm b n c (y:Int) d' w7):=ap.out.below Z;have aT:Hid (KeepsOthers W5 w7):=⟨Z.size,λk o ho hc=>(Z.block k (AD.1 ho).1).trans ho⟩;have aR:Hid (KpN bl g V w7):=aS.out.t (KpN.of_below Z ab.out.lt);clear Z;refine rdy 7 (λKB H=>?_);refine Mi kr ?_;refine NT _ _ _ 69 rfl J.heap.size 116 i0 (i8 #[.int .i64 0,.int .i64 0]) 2 16 underlying69 hi bR bQ bP rfl (by decide) _ m0 _ rfl ac.out a9 nw c9 (AV D) rfl bJ.out.1 (MC _) (by unfold maxLen;omega) om C.2 ?_;intro v' w8 a6 I aG;obtain⟨a8,c8,rfl,_,_⟩:=SlK.own a6;obtain⟨k1,k2,k3,k4,k5,k6,k7⟩:=acC (g:=g) bI.out ac.out I aG a6 om om om C.2;have bE:DW J.heap.size bl W5 w8:=⟨λk h1 h2=>(AQ w8 ⟨bl,0,O⟩ _ k h2).symm.trans ((k6 k h1 h2).trans (C.1 k h1 h2)),k7⟩;have bD:DW J.heap.size bl W5 (w8.setCell ⟨bl,0,O⟩ (.slice a8 (m0+nw) c8)):=⟨λk h1 h2=>(k6 k h1 h2).trans (C.1 k h1 h2),by simpa[World.setCell]using k7⟩;have bM:Hid (Bt w (w8.setCell ⟨bl,0,O⟩ (.slice a8 (m0+nw) c8))):=(af.out.grown I af.out.size (λj hj=>by have:=(BA ac.out j hj).1;omega)).setCell (by show w.heap.size<=bl;omega) _;refine H.out _ _ bE (λaa=>?_);clear H KB aa aG I;have d2:=k2.cell;have d3:=k2.frozen;have d4:=k2.lt;have K1:=AA k1;have K3:=AA k3;have K4:=AA k4;have K5:=AA k5;have K6:=AA k6;clear k1 k2 k3 k4 k5 k6
    try simp only[pq]
    refine rdy 8 (λKB H=>?_);go_simp;refine H.out _ _ bD (λaa=>?_);clear H KB aa
    try simp only[pq]
    refine Vd kr ?_ _;refine Gn.normal ?_
    gi_wp2
    refine⟨((aU.out.from _).trans (aT.out.from _)).trans (K5.out.from _),aR.out.t K1.out,⟨_,K3.out,?_⟩,⟨d',?_⟩,bM.out,by simpa[World.setCell]using k7,(K6.out _ om om).trans aQ.out,(K6.out _ om om).trans aL.out⟩
    ·rw[am.out];unfold Ax;rw[List.length_append,bL.out,ct.out,JT];exact K4.out
    ·rw[bK.out];exact(K6.out g om om).trans aK.out
   ·go_simp
    go_at_call 244;refine(KH.out W6 (A.out.trans (U.mono A.out.size))).mono ?_;rintro e w7 ⟨a9,c9,rfl,aA,ai⟩
    have Z:=U.trans (ai.mono U.size);refine H.out _ _ ⟨λk h1 _=>Z.block k om,AS om Z.size⟩ (λC=>?_);clear H KB
    try simp only[pq]
    have bJ:=AA aA;have q3:Boxed w7 bl 69 (T av m0 cv):=(Z.block bl ab.out.lt).trans ab.out;have q2:=q3.cell;clear q3;refine rdy 0 (λKB H=>?_);go_simp;refine H.out _ _ C (λ_=>?_);clear H KB q2 aA ai C
    try simp only[pq]
    have C:DW J.heap.size bl W5 w7:=⟨λk h1 _=>Z.block k om,AS om Z.size⟩;have bI:Hid (Boxed w7 bl 69 (.slice av m0 cv)):=(Z.block bl ab.out.lt).trans ab.out;have ac:Hid (w7.ownsRow J.heap.size 116 2 (.slice av m0 cv) m0 (AV Hp)):=DJ aP.out Z;have af:Hid (Bt w w7):=A.out.trans (Z.mono A.out.size);have aQ:Hid (w7.heap[w.heap.size]?=E (i7 #[.pointer (E ⟨B,0,O⟩)] 88 (0,0))):=(Z.block _ om).trans aq.out;have aL:Hid (w7.heap[w.heap.size+1+1+1]?=E (i7 #[.int .i64 0,.int .i64 0] 247 (0,0))):=(Z.block _ om).trans aM.out;have aK:Hid (SbX g nu st wm b n c (y:Int) d' w7):=ap.out.below Z;have aT:Hid (KeepsOthers W5 w7):=⟨Z.size,λk o ho hc=>(Z.block k (AD.1 ho).1).trans ho⟩;have aR:Hid (KpN bl g V w7):=aS.out.t (KpN.of_below Z ab.out.lt);clear Z;refine rdy 7 (λKB H=>?_);refine Mi kr ?_;refine NT _ _ _ 69 rfl J.heap.size 116 i0 (i8 #[.int .i64 0,.int .i64 0]) 2 16 underlying69 hi bR bQ bP rfl (by decide) _ m0 _ rfl ac.out a9 nw c9 (AV D) rfl bJ.out.1 (MC _) (by unfold maxLen;omega) om C.2 ?_;intro v' w8 a6 I aG;obtain⟨a8,c8,rfl,_,_⟩:=SlK.own a6;obtain⟨k1,k2,k3,k4,k5,k6,k7⟩:=acC (g:=g) bI.out ac.out I aG a6 om om om C.2;have bE:DW J.heap.size bl W5 w8:=⟨λk h1 h2=>(AQ w8 ⟨bl,0,O⟩ _ k h2).symm.trans ((k6 k h1 h2).trans (C.1 k h1 h2)),k7⟩;have bD:DW J.heap.size bl W5 (w8.setCell ⟨bl,0,O⟩ (.slice a8 (m0+nw) c8)):=⟨λk h1 h2=>(k6 k h1 h2).trans (C.1 k h1 h2),by simpa[World.setCell]using k7⟩;have bM:Hid (Bt w (w8.setCell ⟨bl,0,O⟩ (.slice a8 (m0+nw) c8))):=(af.out.grown I af.out.size (λj hj=>by have:=(BA ac.out j hj).1;omega)).setCell (by show w.heap.size<=bl;omega) _;refine H.out _ _ bE (λaa=>?_);clear H KB aa aG I;have d2:=k2.cell;have d3:=k2.frozen;have d4:=k2.lt;have K1:=AA k1;have K3:=AA k3;have K4:=AA k4;have K5:=AA k5;have K6:=AA k6;clear k1 k2 k3 k4 k5 k6
    try simp only[pq]
    refine rdy 8 (λKB H=>?_);go_simp;refine H.out _ _ bD (λaa=>?_);clear H KB aa
    try simp only[pq]
    refine Vd kr ?_ _;refine Gn.normal ?_
    gi_wp2
    refine⟨((aU.out.from _).trans (aT.out.from _)).trans (K5.out.from _),aR.out.t K1.out,⟨_,K3.out,?_⟩,⟨d',?_⟩,bM.out,by simpa[World.setCell]using k7,(K6.out _ om om).trans aQ.out,(K6.out _ om om).trans aL.out⟩
    ·rw[am.out];unfold Ax;rw[List.length_append,bL.out,ct.out,JT];exact K4.out
    ·rw[bK.out];exact(K6.out g om om).trans aK.out
 case hstop=>exact λ_ _ _ _ _ _ h _=>h.elim
 case hdone=>
  rintro D zs V hD ⟨rfl,z',hG⟩ ⟨⟨v,hv,Y⟩,⟨d2,a2⟩,aI,cz,aw,au⟩ cg;obtain⟨-,rfl⟩:=a2.same hG;rw[cq.out]at Y;rw[cL.out]at a2;obtain⟨zf,bq⟩:∃X,Bp fold wss z F=X:=⟨_,rfl⟩;rw[bq]at a2;obtain⟨av,cv,rfl,_,_⟩:=SlK.own Y;obtain⟨nl,bt⟩:∃X,(Fs fold wss st wm bs z d m).length=X:=⟨_,rfl⟩;rw[bt]at hv Y;obtain⟨dT,bx⟩:∃X:Int,(d:Int)+(Ta:Int)=X:=⟨_,rfl⟩;rw[bx]at a2;have ci:=AA bq;have cP:=AA bx;have cV:=AA bt;obtain⟨Dr,bH⟩:∃k,w.heap.size+1+1+1=k:=⟨_,rfl⟩;have cc:bl≠Dr:=by omega
  have cC:g≠Dr:=by omega
  have cf:D≠Dr:=by omega
  have bU:w.heap.size<=Dr:=by omega
  have d7:Dr<bl:=by omega
  have dd:=AA bH;rw[bH]at au⊢;clear bH;have KX:Hid (∀X,((∀k,k≠Dr->k≠bl->X.heap[k]?=V.heap[k]?)/\X.cell? ⟨bl,0,O⟩=E (T av nl cv))->SbX g nu st wm b n c (zf:Int) dT X):=λX hX=>(hX.1 g cC om).trans a2;have HV:=AA hv;have ay:=AA Y;have aN:=AA au;have ag:=AA aI;have cu:=AA cg;clear Y a2 hG aw au aI bq bx bt cg
  go_wp2_with fail
  refine Vb ?_;refine Va (S:=λX=>((∀k,k≠Dr->k≠bl->X.heap[k]?=V.heap[k]?)/\X.cell? ⟨bl,0,O⟩=E (T av nl cv))) kr ⟨λ_ _ _=>rfl,hv.cell⟩ (λhS=>?_);obtain⟨V1,ak⟩:∃X,X=V.drew:=⟨_,rfl⟩;have ck:Hid (Boxed V1 bl 69 (T av nl cv)):=by rw[ak];exact HV.out
  have bo:Hid (Ax V1 J.heap.size (T av nl cv) (Fs fold wss st wm bs z d m)):=by rw[ak];exact ay.out
  have bk:Hid (V1.heap[Dr]?=E (i7 #[R K 0,R K 0] 247 (0,0))):=by rw[ak];exact aN.out
  have bp:Hid (Bt w V1):=by rw[ak];exact ag.out.trans ((AN V 1).mono ag.out.size)
  have cw:Hid (V1.heap[D]?=E (.deferred (E []))):=by rw[ak];exact cu.out
  rw[<-ak]at hS⊢;clear ak hv HV ay aN ag cu;refine tkW 0 (v:=?_) ?_ ?_;rotate_left
  ·intro V N;have c2:=N.2;obtain⟨⟨g0,g1,g2,g3,g4,g5⟩,f4,f5⟩:=(KX.out V N).cells
   first|(go_simp;done)|(go_simp;with_reducible rfl)
  try simp only[pq]
  refine tkW 1 (v:=?_) ?_ ?_;rotate_left
  ·intro V N;have c2:=N.2;obtain⟨⟨g0,g1,g2,g3,g4,g5⟩,f4,f5⟩:=(KX.out V N).cells
   first|(go_simp;done)|(go_simp;with_reducible rfl)
  try simp only[pq]
  refine tkW 2 (v:=?_) ?_ ?_;rotate_left
  ·intro V N;have c2:=N.2;obtain⟨⟨g0,g1,g2,g3,g4,g5⟩,f4,f5⟩:=(KX.out V N).cells
   first|(go_simp;done)|(go_simp;with_reducible rfl)
  try simp only[pq]
  refine tkW 3 (v:=?_) ?_ ?_;rotate_left
  ·intro V N;have c2:=N.2;obtain⟨⟨g0,g1,g2,g3,g4,g5⟩,f4,f5⟩:=(KX.out V N).cells
   first|(go_simp;done)|(go_simp;with_reducible rfl)
  try simp only[pq]
  refine tkW 4 (v:=?_) ?_ ?_;rotate_left
  ·intro V N;have c2:=N.2;obtain⟨⟨g0,g1,g2,g3,g4,g5⟩,f4,f5⟩:=(KX.out V N).cells
   first|(go_simp;done)|(go_simp;with_reducible rfl)
  try simp only[pq]
  refine tkW 5 (v:=?_) ?_ ?_;rotate_left
  ·intro V N;have c2:=N.2;obtain⟨⟨g0,g1,g2,g3,g4,g5⟩,f4,f5⟩:=(KX.out V N).cells
   first|(go_simp;done)|(go_simp;with_reducible rfl)
  try simp only[pq]
  refine tkW 6 (v:=?_) ?_ ?_;rotate_left
  ·intro V N;have c2:=N.2;obtain⟨⟨g0,g1,g2,g3,g4,g5⟩,f4,f5⟩:=(KX.out V N).cells
   first|(go_simp;done)|(go_simp;with_reducible rfl)
  try simp only[pq]
  refine tkW 7 (v:=?_) ?_ ?_;rotate_left
  ·intro V N;have c2:=N.2;obtain⟨⟨g0,g1,g2,g3,g4,g5⟩,f4,f5⟩:=(KX.out V N).cells
   first|(go_simp;done)|(go_simp;with_reducible rfl)
  try simp only[pq]
  refine tkW 8 (v:=?_) ?_ ?_;rotate_left
  ·intro V N;have c2:=N.2;obtain⟨⟨g0,g1,g2,g3,g4,g5⟩,f4,f5⟩:=(KX.out V N).cells
   first|(go_simp;done)|(go_simp;with_reducible rfl)
  try simp only[pq]
  refine tkW 9 (v:=?_) ?_ ?_;rotate_left
  ·intro V N;have c2:=N.2;obtain⟨⟨g0,g1,g2,g3,g4,g5⟩,f4,f5⟩:=(KX.out V N).cells
   first|(go_simp;done)|(go_simp;with_reducible rfl)
  try simp only[pq]
  refine tkW 10 (v:=?_) ?_ ?_;rotate_left
  ·intro V N;have c2:=N.2;obtain⟨⟨g0,g1,g2,g3,g4,g5⟩,f4,f5⟩:=(KX.out V N).cells
   first|(go_simp;done)|(go_simp;with_reducible rfl)
  try simp only[pq]
  have ad:=bk.out;have r0:V1.cell? ⟨Dr,0,O⟩=E (R K 0):=by simp[cell?,ad]
  have r1:V1.cell? ⟨Dr,1,O⟩=E (R K 0):=by simp[cell?,ad]
  have r2:V1.frozen? ⟨Dr,0,O⟩=M:=by simp[frozen?,ad]
  have r3:V1.frozen? ⟨Dr,1,O⟩=M:=by simp[frozen?,ad]
  have aV:=apy (u0:=R K (zf:Int)) (u1:=R K dT) ad;clear ad;refine rdy 11 (λKB H=>?_);go_simp;obtain⟨V2,aZ⟩:∃X,X=(V1.setCell ⟨Dr,0,O⟩ (R K (zf:Int))).setCell ⟨Dr,1,O⟩ (R K dT):=⟨_,rfl⟩;rw[<-aZ]at aV⊢;have ae:∀k,k≠Dr->V2.heap[k]?=V1.heap[k]?:=λk hk=>by rw[aZ];exact(AQ _ ⟨Dr,1,O⟩ _ k hk).trans (AQ V1 ⟨Dr,0,O⟩ _ k hk)
  have ar:Boxed V2 bl 69 (T av nl cv):=(ae bl cc).trans ck.out;have cR:Hid (Bt w V2):=by rw[aZ];exact(bp.out.setCell bU _).setCell bU _
  have cM:Hid (V2.heap[Dr]?=E (i7 #[R K (zf:Int),R K dT] 247 (0,0))):=aV.1;have cn:Hid (Ax V2 J.heap.size (T av nl cv) (Fs fold wss st wm bs z d m)):=by have h:=bo.out;unfold Ax at h⊢;exact h.kept aV.2 (.inr (λe=>by have:=(BA h _ e).1;omega))
  have cQ:Hid (V2.heap[D]?=E (.deferred (E []))):=(ae D cf).trans cw.out;refine H.out _ _ ⟨λk h1 h2=>(ae k h1).trans (hS.1 k h1 h2),ar.cell⟩ (λcG=>?_);clear H KB r0 r1 r2 r3 aV ae aZ ck bo bk bp cw hS
  try simp only[pq]
  have c2:=ar.cell;have c3:=ar.lt;have c4:=ar.frozen;have bW:=ar.set (T av nl cv);have cj:=AA bW;clear bW ar;refine rdy 12 (λKB H=>?_);go_simp;refine H.out _ _ ⟨λk h1 h2=>(AQ V2 ⟨bl,0,O⟩ _ k h2).trans (cG.1 k h1 h2),cj.out.cell⟩ (λd6=>?_);clear H KB c2 c3 c4
  try simp only[pq]
  refine tkA 13 ?_;refine Vd kr ?_ _;refine At ?_;obtain⟨V3,ax⟩:∃X,X=V2.setCell ⟨bl,0,O⟩ (T av nl cv):=⟨_,rfl⟩;have x1:V3.heap[D]?=E (.deferred (E [])):=by rw[ax];exact(AQ V2 ⟨bl,0,O⟩ _ D (by show D≠bl;omega)).trans cQ.out
  have x2:V3.heap[Dr]?=E (i7 #[R K (zf:Int),R K dT] 247 (0,0)):=by rw[ax];exact(AQ V2 ⟨bl,0,O⟩ _ Dr (Ne.symm cc)).trans cM.out
  have x3:Bt w V3:=by rw[ax];exact cR.out.setCell (by show w.heap.size<=bl;omega) _
  have x4:Ax V3 J.heap.size (T av nl cv) (Fs fold wss st wm bs z d m):=by rw[ax];have h:=cn.out;unfold Ax at h⊢;exact h.kept (BH V2 bl 0 _) (.inr (λe=>by have:=(BA h _ e).1;omega))
  have x5:Boxed V3 bl 69 (T av nl cv):=by rw[ax];exact cj.out
  have cI:D≠bl:=by omega
  go_wp2;rw[<-ax];refine Gg rfl x1 (aah rfl rfl rfl ((Cm (Ne.symm cf)).trans x2) ((BC (a:=⟨bl,0,O⟩) (Cm (Ne.symm cI))).trans x5.cell)) ⟨T av nl cv,?_,?_,FZ x3 om (AC _) _⟩
  ·rw[ci.out,cP.out]
   rfl
  ·have h:=abM x4 (show w.heap.size<=J.heap.size by omega);unfold Ax at h⊢;refine h.kept (grownBy_putObj' V3 D _) ?_
   rcases x4.2 with⟨e0,_⟩|⟨g',cap,d9,e0,_,c6,_⟩
   ·rw[e0];exact .inl rfl
   ·refine .inr λe=>?_;rw[e0]at e;have e':g'=D:=by simpa[Value.ownBlock]using e
    rw[e',x1]at c6
    cases c6
end
def slZ(fold:Bool)(wss:La)(st wm:Int)(Z:List Int)(z d m:Int):Int:=if DI fold wss st wm (lc Z) z d=G then((Bp fold wss z.toNat (CU Z d m):Nat):Int) else z
def slD(fold:Bool)(wss:La)(st wm:Int)(Z:List Int)(z d m:Int):Int:=if DI fold wss st wm (lc Z) z d=G then d+((Am (lc Z) d m:Nat):Int) else d
def slH(fold:Bool)(wss:La)(st wm:Int)(Z:List Int)(z d m:Int):List AF:=if DI fold wss st wm (lc Z) z d=G then Fs fold wss st wm Z z d m else []
def slO(fold:Bool)(wss:La)(st wm:Int)(Z:List Int)(z d m:Int):Bool:=if DI fold wss st wm (lc Z) z d=G then decide (d+((Am (lc Z) d m:Nat):Int)=(lc Z:Int)) else M
section
variable {fold:Bool}{wss:La}
theorem NP{st wm:Int}{n:Nat}{z d:Int}(h:DI fold wss st wm n z d=G):An fold wss=G/\Dh (Au wss) st wm n=G/\(0<=z/\z<((AB wss).length:Int))/\0<=d/\d<=(n:Int):=by unfold DI at h;rw[Bq,Bq,Bq]at h;obtain⟨⟨⟨h1,h2⟩,h3⟩,h4⟩:=h;unfold KA at h2;have h2:=Lj h2;have h4:=Lj h4;exact⟨h1,h3,h2.1,h4⟩
theorem akC(Z:An fold wss=G)(st wm:Int)(n:Nat)(z d:Int):KK (AB wss).length (Au wss) st wm n z d=DI fold wss st wm n z d:=by
 unfold DI KK KA;rw[Z,FJ,Db];simp only[Bq,decide_eq_true_eq]
 constructor
 ·rintro⟨h1,h2⟩;exact⟨⟨⟨h2.1,by omega⟩,h1⟩,h2.2⟩
 ·rintro⟨⟨h1,h2⟩,h3⟩;exact⟨h2,h1.1,h3⟩
end
structure aoP(W:World)(p:Option Addr)(fold:Bool)(wss:La):Prop where
 right:∀V,Bt W V->∀(nu st wm:Int)(b:Option Addr)(n c:Nat)(z d:Int),n<=900000->Calls ZP 241 #[L p,.agg (blV nu st wm b n c),prV z d] V λe w'=>e=.returned (i6 (DI fold wss st wm n z d))/\Bt V w'
 slice:∀V,Below W.heap.size W V->∀(nu st wm:Int) (b:Option Addr) (n c:Nat) (bs:List Int) (z d m:Int),Bys V b n bs->n<=900000->(-9223372036854775808<=m/\m<=9223372036854775807)->
  Calls ZP 200 #[L p,.agg (blV nu st wm b n c),prV z d,R K m] V λe w'=>∃v,e=.returned (.tuple #[prV (slZ fold wss st wm bs z d m) (slD fold wss st wm bs z d m),v,i6 (slO fold wss st wm bs z d m)])/\Ax w' V.heap.size v (slH fold wss st wm bs z d m)/\Bt V w'
theorem afe{p:Option Addr}{fold:Bool}{wss:La}(Y st wm:Int)(b:Option Addr)(n c:Nat)(Z:List Int)(z d m:Int)(V:Wa)(I:Bys V b n Z)(U:DI fold wss st wm n z d=M)
  (J:∀W,Bt V W->Calls ZP 241 #[L p,i8 (blV Y st wm b n c),prV z d] W λe w'=>e=ra (i6 M)/\Bt W w') :
  Calls ZP 200 #[L p,i8 (blV Y st wm b n c),prV z d,R K m] V λe w'=>∃v,e=ra (ta #[prV (slZ fold wss st wm Z z d m) (slD fold wss st wm Z z d m),v,i6 (slO fold wss st wm Z z d m)])/\Ax w' V.heap.size v (slH fold wss st wm Z z d m)/\Bt V w':=by
 have X:lc Z=n:=I.len;unfold slZ slD slH slO;rw[X,U];refine(aio p Y st wm b n c z d m V J).mono ?_;rintro e w' ⟨rfl,N⟩;simp only[Bool.false_eq_true,if_false];exact⟨_,rfl,BN _ _ _ _,N⟩
theorem ahf{v W:Wa}{B:Nat}{fold:Bool}{wss:La}(J:ET v B fold wss W)(X:An fold wss=G):aoP W (E ⟨B,0,O⟩) fold wss:=by
 refine⟨λV U Z st wm b n c z d C=>?_,λV U Z st wm b n c D z d m H C A=>?_⟩
 ·rw[<-akC X];exact aao Z st wm b n c z d V (J.below U) om
 ·cases Y:DI fold wss st wm n z d with
  |false=>
   refine afe Z st wm b n c D z d m V H Y (λy N=>?_);have h:=aao Z st wm b n c z d y ((J.below U).below N) om
   rwa[akC X,Y]at h
  |true=>
   have I:lc D=n:=H.len;unfold slZ slD slH slO;rw[I,Y];obtain⟨h1,h2,⟨h3,h4⟩,h5,h6⟩:=NP Y;obtain⟨z,rfl⟩:∃k:Nat,z=(k:Int):=⟨z.toNat,by omega⟩;obtain⟨d,rfl⟩:∃k:Nat,d=(k:Int):=⟨d.toNat,by omega⟩;simp only[if_true,Aa];exact afi Z st wm b n c z d m D V (J.below U) H C X A (by rw[akC X,Y])
def scF(fold:Bool)(wss:La)(S:Nat)(st wm:Nat)(bs:List Int)(z d:Nat):Nat×Nat×List AF×Bool:=((slZ fold wss st wm bs z d S).toNat,(slD fold wss st wm bs z d S).toNat,slH fold wss st wm bs z d S,slO fold wss st wm bs z d S)
section
variable {fold:Bool}{wss:La}{S st wm z d:Nat}{bs:List Int}{c:CfM}
theorem ap8:((scF fold wss S st wm bs z d).1:Int)=slZ fold wss st wm bs z d S:=by
 show(((slZ fold wss st wm bs z d S).toNat:Nat):Int)=_;unfold slZ
 split<;>omega
theorem aoS:((scF fold wss S st wm bs z d).2.1:Int)=slD fold wss st wm bs z d S:=by
 show(((slD fold wss st wm bs z d S).toNat:Nat):Int)=_;unfold slD
 split<;>omega
theorem ap3{q B:Nat}{Wm:Wa}(I:Hj q B fold wss Wm)(Y:An fold wss=G)(U:c.scan=scF fold wss c.S)(C:c.S<=256)(V:Wa)(N:Fk q Wm V):Nz B c V:=by intro Z st wm b n D bs z d H X;have J:ET V B fold wss V:=(I.kept N).use;refine((ahf J Y).slice V (AH _ _) Z st wm b n D bs z d c.S H X om).mono ?_;rintro e w' ⟨v,rfl,h1,h2⟩;rw[U];exact⟨v,by rw[ap8,aoS];rfl,h1,h2⟩
theorem ap2{q B LO:Nat}{Wm:Wa}(X:Hj q B fold wss Wm)(Y:Au wss=(LO:Int))(V:Wa)(Z:Fk q Wm V):Calls ZP 95 #[L (E ⟨B,0,O⟩)] V λe w'=>e=ra (R K (LO:Int))/\V=w':=by rw[<-Y];exact(X.kept Z).use.longest
theorem ao2(V:c.scan=scF fold wss c.S)(Y:(AB wss).length<=400):ML c 400 (c.K+c.wm):=by
 intro st wm bs z d U X;rw[V];unfold scF slD slH;dsimp only
 split
 ·rename_i h
  obtain⟨_,_,⟨h1,h2⟩,h3,h4⟩:=NP h;have Z:=Jw (n:=lc bs) (d:=(d:Int)) (m:=(c.S:Int)) h3 h4;rw[Aa]at Z;have e:((d:Int)+((Am (lc bs) d c.S:Nat):Int)).toNat=d+Am (lc bs) d c.S:=by omega
  rw[e];refine⟨by omega,by omega,?_⟩;unfold Fs Dj;refine AS (List.length_filter_le _ _) (AS (Mx _ _ _ om) (GR Y ?_));unfold CU;rw[Ag];omega
 ·rw[Aa];exact⟨AC _,X,AR _⟩
end
end Go.Proofs.YtaamacoicojhnaaGreat
