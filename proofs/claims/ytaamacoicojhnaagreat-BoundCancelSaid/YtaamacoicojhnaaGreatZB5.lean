/- Proofs over the given program, part 5. -/
import Derived.Test.YtaamacoicojhnaaGreatZB4
set_option linter.unusedVariables false
set_option linter.unusedSimpArgs false
set_option maxRecDepth 100000
set_option maxHeartbeats 16000000
open Go.Proofs.Tryz
open Go.Proofs.Tryz renaming prog→ZP
namespace Go.Proofs.YtaamacoicojhnaaGreat
open Go.RowKit Go.Sort
theorem att:(ZP.info? 5).map (fun i=>(i.zero,i.size,i.bytes))=some (some (.int .u8 0),1,1):=by kernel_rfl
theorem ac8:(ZP.info? 3).map (fun i=>(i.zero,i.size,i.bytes))=some (some (.int .i64 0),1,8):=by kernel_rfl
section
variable {base mb nb wb n1 n2:Nat}{fN fW:Byt->Option Int}{U D X B:List Int}{u d x b:Value}{W V:World}
theorem MK.putN (h:MK base mb nb wb n1 n2 fN fW U D X B u d x b W){N:Byt->Option Int}{m:Nat}(J:MS V nb m N)(Z:W.grownBy V (some nb)):MK base mb nb wb m n2 N fW U D X B u d x b V:=by
 have Y:=(awU.1 h.box).1;refine⟨(Z.block mb Y (fun e=>by injection e with e;exact h.lt.2.2.2.1 e)).trans h.box,h.up.kept Z (aei h.up h.lt.2.1),h.dep.kept Z (aei h.dep h.lt.2.1),h.wrd.kept Z (aei h.wrd h.lt.2.1),h.byt.kept Z (aei h.byt h.lt.2.1),h.s1,h.s2,h.s3,h.s4,h.s5,h.s6,J,h.wds.kept Z (fun e=>by injection e with e;exact h.lt.2.2.2.2.2 e),h.lt,awT h.sz Z.size⟩
theorem MK.fz (h:MK base mb nb wb n1 n2 fN fW U D X B u d x b W)(o:Obj){row:Option Nat}(N:(W.alloc o).grownBy V row)(Y:row≠some mb)(i:Nat):V.frozen? ⟨mb,i,none⟩=false:=by
 have Z:=(awU.1 h.box).1;have:=(N.block mb (by simp;omega) (fun e=>Y e.symm)).trans ((axi _ _ _ Z).trans h.box);simp [World.frozen?,this]
theorem MK.cz (h:MK base mb nb wb n1 n2 fN fW U D X B u d x b W)(o:Obj){row:Option Nat}(N:(W.alloc o).grownBy V row)(Y:row≠some mb):V.cell? ⟨mb,0,none⟩=some u/\V.cell? ⟨mb,1,none⟩=some d/\V.cell? ⟨mb,2,none⟩=some x/\V.cell? ⟨mb,3,none⟩=some b:=by
 have Z:=(awU.1 h.box).1;have:=(N.block mb (by simp;omega) (fun e=>Y e.symm)).trans ((axi _ _ _ Z).trans h.box);refine⟨?_,?_,?_,?_⟩<;>simp [World.cell?,this]
end
theorem afH {w:World}{base n size m:Nat}{e:TypeId}{v:Value}{xs:List Value}(h:w.ownsRow base e size v n xs)(Z:m<base):v.ownBlock≠some m:=by
 rcases aei h Z with e | e
 · rw [e];simp
 · exact e
theorem auP (base mb nb wb n1 n2:Nat)(fN fW:Byt->Option Int)(U D X B:List Int)(u d x b:Value)(s:Byt)(uI:Int)(w:World)(h:MK base mb nb wb n1 n2 fN fW U D X B u d x b w)(bd:n1<=1000000)(bg:U.length<=1000000)(bh:D.length<=1000000)(bf:X.length<=1000000)(bi:B.length<=1000000)
  (hs:s.length<=1000000) (am:s=[]->uI=0) (al:s≠[]->fN s.dropLast=some uI) :
  Calls ZP 132 #[.pointer (some ⟨mb,0,none⟩),afX s] w fun e w'=>e=.returned (.tuple #[])/\∃u' d' x' b',MK base mb nb wb (n1+1) n2 (fun k=>if k=s then some (U.length:Int) else fN k) fW (U++[uI]) (D++[(s.length:Int)]) (X++[(fW s).getD (-1)]) (B++[ajY s]) u' d' x' b' w'/\aaz mb nb base w w':=by
 obtain⟨i0,hi,ak,aj,ai⟩:=info_parts ac8;obtain⟨i1,hj,aK,aJ,aI⟩:=info_parts att;have HS:=ax3 (ahw s);obtain⟨E,aA⟩:∃E,(ae3 s).toList.isEmpty=E:=⟨_,rfl⟩;go_enter func132,ntmps132
 go_upto_if 9 with fail
 have av:=ax3 aA;clear aA
 go_cut [4,5] (fun s4 s5 wx=>s4=.int .i64 uI/\s5=.int .u8 (ajY s)/\Below w.heap.size w wx)
 case first=>
  cases E with
  | true=>
   have h0:s=[]:=ayv fun e=>by have:=ajs e;rw [av.out] at this;cases this
   have aN:=am h0
   go_wp2_with fail
   go_meet
   exact⟨by rw [aN],by rw [h0];rfl,axf _ _⟩
  | false=>
   have h0:s≠[]:=fun e=>by rw [e] at av;have:=av.out;simp [ae3,ByteArray.toList_eq] at this
   obtain⟨q,hq⟩:∃q,s.length=q+1:=⟨s.length-1,by have:s.length≠0:=fun e=>h0 (ayk e);omega⟩;have hcut:=asR s;have aL:=ahw s;rw [hq] at aL hcut;rw [ayR] at hcut;have be:∀d os,Sem.run ZP (Instr.lookup 228 (.map (some nb)) (.string ((ae3 s).extract 0 q)) false) (grow (redrawn w d) os)=.ok (.int .i64 uI) (grow (redrawn w d) os):=fun d os=>by
    rw [hcut];exact (h.nod.below (below_regrown w d os)).run_get (by rw [List.length_dropLast];unfold maxLen;omega) (al h0)
   have aM:q<(ae3 s).size:=by omega
   have b7:=ax3 (asE hq aM);have bb:q<=1000000:=by omega
   have b8:(q:Int)<(q:Int)+1:=by omega
   clear hcut hq h0 am al;have aw:mb<w.heap.size:=(awU.1 h.box).1;have c4:∀d os,(grow (redrawn w d) os).cell? ⟨mb,4,none⟩=some (.map (some nb)):=fun d os=>((below_regrown w d os).cell (p:=⟨mb,4,none⟩) aw).trans h.cells.1.2.2.2.2.1;go_upto_region 2 with fail
   refine wp_region_quiet_below mixed (by kernel_rfl) ?_
   repeat (go_big_quiet_step (fail))
   refine wpQuiet_nil ?_;rintro _ ⟨⟨dq,aH⟩,rfl⟩
   go_wp2_with fail
   go_meet
   exact⟨rfl,by rw [<-b7.out],below_regrown w dq aH⟩
 case rest=>
  obtain⟨rfl,rfl,hb⟩:=hcut;have I:aaz mb nb base w wc:=.of_below hb h.sz;have h:=h.below hb;clear hb am al;obtain⟨O,hO⟩:∃O,fW s=O:=⟨_,rfl⟩;obtain⟨⟨c0,c1,c2,c3,c4,c5⟩,_⟩:=h.cells;have hms0:=h.wds
  go_upto_if 35 with (at_lookup;refine adw rfl _ _ rfl rfl hms0 s rfl (by unfold maxLen;omega) ?_;intro cw hcw;rw [hO])
  rw [hO] at hcw;have HO:=ax3 hO;clear hO c0 c1 c2 c3 c4 c5
  go_cut [6] (fun s6 wx=>wc=wx/\s6=.int .i64 (O.getD (-1)))
  case first=>
   cases O with
   | none=>
    go_wp2_with fail
    go_meet
    exact⟨rfl,rfl⟩
   | some v=>
    obtain rfl:cw=v:=hcw v rfl
    go_wp2_with fail
    go_meet
    exact⟨rfl,rfl⟩
  case rest=>
  obtain⟨rfl,rfl⟩:=hcut;clear hcw hms0;obtain⟨Z,hZ⟩:∃Z:Int,O.getD (-1)=Z:=⟨_,rfl⟩;rw [hZ];have HZ:Hid ((fW s).getD (-1)=Z):=by rw [Hid,HO.out];exact hZ
  clear hZ HO;obtain⟨au,cu,rfl,_,_⟩:=aaC h.up;obtain⟨ad,cd,rfl,_,_⟩:=aaC h.dep;obtain⟨ax,cx,rfl,_,_⟩:=aaC h.wrd;obtain⟨ab,cb,rfl,_,_⟩:=aaC h.byt;have aw:mb<wc.heap.size:=(awU.1 h.box).1;obtain⟨⟨c0,c1,c2,c3,c4,c5⟩,_⟩:=h.cells;go_upto_region 6 with fail
  refine aak 11 mixed (by kernel_rfl) ?_;dsimp only [List.take_succ_cons,List.take_zero,List.drop_succ_cons,List.drop_zero]
  repeat (go_big_quiet_step (fail))
  refine wpQuiet_nil ?_;rintro _ ⟨nq,rfl⟩;have h6:=h.below (aa2 wc nq);have ay:aaz mb nb base w (wc.drewN nq):=I.trans (.of_below (aa2 wc nq) h.sz);refine acV rfl _ _ _ rfl rfl h6.nod (by unfold maxLen;omega) s U.length (awi (by omega)) rfl rfl (by unfold maxLen;omega) ?_;intro w5 a8 ar;have az:aaz mb nb base w w5:=ay.grown ar (fun k e=>by cases e;exact .inr rfl) h6.sz;have h5:=h6.putN a8 ar;clear c0 c1 c2 c3 c4 c5 h6 a8 ar ay I h;have I:=az;have h:=h5;clear h5 az;have bk:=ax3 hs;obtain⟨c0,c1,c2,c3,c4,c5⟩:=h.cells.1;go_upto_region 8 with (at_builtin;refine wpList_append_own_at _ rfl _ _ 30 rfl base 3 i0 (.int .i64 0) 1 8 underlying30 hi ak aj ai rfl (by decide) _ _ _ rfl (h.up.alloc _) ⟨w5.heap.size,0,none⟩ 1 1 [.int .i64 uI] rfl rfl (ab7 _ _ (by simp)) (by simp [Value.oneCell']) (by unfold maxLen;omega) (by omega) (by have:=h.sz;simp;omega) ?_;intro v7 ah z a7 aq ae;obtain⟨g7,b6,rfl⟩:=ownsRow_succ z;have aR:ah.frozen? ⟨mb,0,none⟩=false:=h.fz _ a7 (afH h.up h.lt.1) 0;obtain⟨b3,b2,b1,b0⟩:=h.cz _ a7 (afH h.up h.lt.1))
  obtain⟨h',N⟩:=h.put_u _ z a7 ae;have J:=I.trans N;clear b3 b2 b1 b0 c0 c1 c2 c3 c4 c5 z a7 aq ae N aR h I;have h:=h';have I:=J;clear h' J;obtain⟨Y7,hY⟩:∃Y,Y=ah.setCell ⟨mb,0,none⟩ (.slice (some ⟨g7,0,none⟩) (U.length+1) b6):=⟨_,rfl⟩;rw [<-hY] at h I ⊢;clear hY ah;obtain⟨c0,c1,c2,c3,c4,c5⟩:=h.cells.1;go_upto_region 9 with (at_builtin;refine wpList_append_own_at _ rfl _ _ 32 rfl base 5 i1 (.int .u8 0) 1 1 underlying32 hj aK aJ aI rfl (by decide) _ _ _ rfl (h.byt.alloc _) ⟨Y7.heap.size,0,none⟩ 1 1 [.int .u8 (ajY s)] rfl rfl (ab7 _ _ (by simp)) (by simp [Value.oneCell']) (by unfold maxLen;omega) (by omega) (by have:=h.sz;simp;omega) ?_;intro v8 ag A a6 ap ac;obtain⟨g8,b5,rfl⟩:=ownsRow_succ A;have aQ:ag.frozen? ⟨mb,3,none⟩=false:=h.fz _ a6 (afH h.byt h.lt.1) 3;obtain⟨aZ,aY,aX,aW⟩:=h.cz _ a6 (afH h.byt h.lt.1))
  obtain⟨h',N⟩:=h.put_b _ A a6 ac;have J:=I.trans N;clear aZ aY aX aW c0 c1 c2 c3 c4 c5 A a6 ap ac N aQ h I;have h:=h';have I:=J;clear h' J;obtain⟨Y8,hY⟩:∃Y,Y=ag.setCell ⟨mb,3,none⟩ (.slice (some ⟨g8,0,none⟩) (B.length+1) b5):=⟨_,rfl⟩;rw [<-hY] at h I ⊢;clear hY ag;obtain⟨c0,c1,c2,c3,c4,c5⟩:=h.cells.1;go_upto_region 10 with (at_builtin;refine wpList_append_own_at _ rfl _ _ 30 rfl base 3 i0 (.int .i64 0) 1 8 underlying30 hi ak aj ai rfl (by decide) _ _ _ rfl (h.dep.alloc _) ⟨Y8.heap.size,0,none⟩ 1 1 [.int .i64 (s.length:Int)] rfl rfl (ab7 _ _ (by simp)) (by simp [Value.oneCell']) (by unfold maxLen;omega) (by omega) (by have:=h.sz;simp;omega) ?_;intro v9 af C a2 ao aa;obtain⟨g9,b4,rfl⟩:=ownsRow_succ C;have aP:af.frozen? ⟨mb,1,none⟩=false:=h.fz _ a2 (afH h.dep h.lt.1) 1;obtain⟨aV,aU,aT,aS⟩:=h.cz _ a2 (afH h.dep h.lt.1))
  obtain⟨h',N⟩:=h.put_d _ C a2 aa;have J:=I.trans N;clear aV aU aT aS c0 c1 c2 c3 c4 c5 C a2 ao aa N aP h I;have h:=h';have I:=J;clear h' J;obtain⟨Y9,hY⟩:∃Y,Y=af.setCell ⟨mb,1,none⟩ (.slice (some ⟨g9,0,none⟩) (D.length+1) b4):=⟨_,rfl⟩;rw [<-hY] at h I ⊢;clear hY af;obtain⟨c0,c1,c2,c3,c4,c5⟩:=h.cells.1
  go_wp2_with (at_builtin;refine wpList_append_own_at _ rfl _ _ 30 rfl base 3 i0 (.int .i64 0) 1 8 underlying30 hi ak aj ai rfl (by decide) _ _ _ rfl (h.wrd.alloc _) ⟨Y9.heap.size,0,none⟩ 1 1 [.int .i64 Z] rfl rfl (ab7 _ _ (by simp)) (by simp [Value.oneCell']) (by unfold maxLen;omega) (by omega) (by have:=h.sz;simp;omega) ?_;intro b9 o H y a1 j;obtain⟨aO,aG,rfl⟩:=ownsRow_succ H;have aB:o.frozen? ⟨mb,2,none⟩=false:=h.fz _ y (afH h.wrd h.lt.1) 2;obtain⟨aF,aE,aD,aC⟩:=h.cz _ y (afH h.wrd h.lt.1))
  obtain⟨h',N⟩:=h.put_x _ H y j;have J:=I.trans N;clear aF aE aD aC c0 c1 c2 c3 c4 c5 H y a1 j N aB h I;have h:=h';have I:=J;clear h' J;obtain⟨bj,hY⟩:∃Y,Y=o.setCell ⟨mb,2,none⟩ (.slice (some ⟨aO,0,none⟩) (X.length+1) aG):=⟨_,rfl⟩;rw [<-hY] at h I ⊢;clear hY o
  go_end0
  rw [HZ.out];exact⟨rfl,_,_,_,_,h,I⟩
theorem ai9 {fold:Bool}{x:List Int}{Z:List (List Int)}:aaw fold x Z<0↔∀y∈Z,aai fold y≠aai fold x:=by
 unfold aaw akV
 cases e:Z.findIdx? (fun w=>abT fold x w) with
 | none=>
  rw [List.findIdx?_eq_none_iff] at e
  constructor
  · intro _ y Y h;have:=e y Y;unfold abT at this;simp at this;exact this h.symm
  · intro _;dsimp only;omega
 | some k=>
  constructor
  · intro h;dsimp only at h;omega
  · intro h;obtain⟨X,h1,_⟩:=List.findIdx?_eq_some_iff_getElem.1 e;unfold abT at h1;simp at h1;exact absurd h1.symm (h _ (List.getElem_mem X))
theorem anV (fold:Bool)(l:List (List Int)):(aaj fold l).Nodup/\∀y∈aaj fold l,aai fold y=y:=by
 refine acq (P:=fun l=>(aaj fold l).Nodup/\∀y∈aaj fold l,aai fold y=y) (by simp [aaj]) (fun l x ⟨h1,h2⟩=>?_) l;rw [ac3];unfold apa
 by_cases h:aaw fold x (aaj fold l)<0
 ·
  rw [if_pos h];have X:=ai9.1 h;refine⟨?_,fun y Z=>?_⟩
  · rw [List.nodup_append];refine⟨h1,by simp,fun a ha b Y e=>?_⟩;simp at Y;subst Y;subst e;exact X _ ha (ahB _ _)
  ·
   rcases ayd.1 Z with Z | Z
   · exact h2 y Z
   · simp at Z;subst Z;exact ahB _ _
 · rw [if_neg h];exact⟨h1,h2⟩
theorem aos:∀(l:List (List Int)),l.Nodup->aaj false l=l:=by
 refine acq (P:=fun l=>l.Nodup->aaj false l=l) (by simp [aaj]) (fun l x Z h=>?_);rw [List.nodup_append] at h;rw [ac3,Z h.1];unfold apa;rw [if_pos (ai9.2 fun y Y e=>?_)]
 · simp [aai]
 · simp [aai] at e;exact h.2.2 y Y x (by simp) e
theorem aaH {fold:Bool}{wss:List (List Int)}(h:aan fold wss=true):wss.length<=64/\wss≠[]/\(∀x∈wss,x.length≠0/\x.length<=32)/\ajA wss<=600/\ab4 fold wss<=400/\aaj fold wss=wss:=by
 rw [ajx] at h;unfold adk at h;rw [ayz] at h;have h1:abn fold wss=0:=of_decide_eq_true h.1;have h2:aaj fold wss=wss:=of_decide_eq_true h.2;unfold abn at h1
 by_cases Z:wss.length=0
 · rw [if_pos Z] at h1;cases h1
 ·
  rw [if_neg Z] at h1
  by_cases a2:wss.length > 64
  · rw [if_pos a2] at h1;cases h1
  ·
   rw [if_neg a2] at h1
   by_cases a3:∃x∈wss,x.length=0
   · rw [if_pos a3] at h1;cases h1
   ·
    rw [if_neg a3] at h1
    by_cases a4:∃x∈wss,x.length > 32
    · rw [if_pos a4] at h1;cases h1
    ·
     rw [if_neg a4] at h1
     by_cases a5:ajA wss > 600
     · rw [if_pos a5] at h1;cases h1
     ·
      rw [if_neg a5] at h1
      by_cases X:ab4 fold wss > 400
      · rw [if_pos X] at h1;cases h1
      · exact⟨by omega,fun e=>Z (by rw [e];rfl),fun x Y=>⟨fun e=>a3 ⟨x,Y,e⟩,Nat.not_lt.1 fun e=>a4 ⟨x,Y,e⟩⟩,by omega,by omega,h2⟩
theorem abr {fold:Bool}{wss:List (List Int)}(h:aan fold wss=true):wss.Nodup/\∀w∈wss,aai fold w=w:=by
 have:=anV fold wss
 rwa [(aaH h).2.2.2.2.2] at this
theorem adG (fold:Bool){wss:List (List Int)}(Y:∀w∈wss,aai fold w=w):((aa0 wss).length:Int)=ab4 fold wss:=by
 obtain⟨h1,h2⟩:=count_eq fold wss;have Z:(aa0 wss).Perm (ajy (abo fold wss)).1:=by
  rw [List.perm_ext_iff_of_nodup (aac wss).nodup (aqv (abo fold wss)).nodup];intro x;rw [aal,h2,ae6.iff];unfold aw0
  constructor
  ·
   rintro (h | ⟨h0,w,hw,Z⟩)
   · exact .inl h
   · exact .inr ⟨w,hw,by rw [Y w hw];exact Z⟩
  ·
   rintro (h | ⟨w,hw,Z⟩)
   · exact .inl h
   ·
    by_cases e:x=[]
    · exact .inl e
    · exact .inr ⟨e,w,hw,by rw [Y w hw] at Z;exact Z⟩
 rw [Z.length_eq];exact h1
theorem abq {fold:Bool}{wss:List (List Int)}(h:aan fold wss=true):aan false wss=true:=by
 obtain⟨h1,h2,h3,h4,h5,h6⟩:=aaH h;obtain⟨X,Y⟩:=abr h;have V:ab4 false wss=ab4 fold wss:=by rw [<-adG fold Y,<-adG false (fun w _=>by simp [aai])]
 rw [ajx];unfold adk;rw [ayz];refine⟨decide_eq_true ?_,decide_eq_true (aos wss X)⟩;unfold abn;rw [if_neg (fun e=>h2 (ayk e)),if_neg (by omega),if_neg (fun ⟨x,Z,e⟩=>(h3 x Z).1 e),if_neg (fun ⟨x,Z,e⟩=>by have:=(h3 x Z).2;omega),if_neg (by omega),if_neg (by rw [V];omega)]
/-! ### a trie read -/
def ahD (T:aaN):Nat->Option (List (List Int))
 | 0=>none
 | 1=>some [[]]
 | i+2=>(ahD T (i+1)).bind fun l=>match T.up[i+1]?,T.byt[i+1]? with
  | some u,some c=>if 0<=u/\u<(i:Int)+1 then (l[u.toNat]?).map fun p=>l++[p++[c]] else none
  | _,_=>none
def spO (T:aaN):Option (List (List Int)):=
 if 1<=T.up.length/\T.up.length<=400/\T.byt.length=T.up.length/\T.dep.length=T.up.length/\T.wrd.length=T.up.length then ahD T T.up.length else none
theorem acR {T:aaN}:∀{i:Nat} {l:List (List Int)},ahD T i=some l->l.length=i
 | 0,l,h=>by cases h
 | 1,l,h=>by simp [ahD] at h;simp [<-h]
 | i+2,l,h=>by
  unfold ahD at h;obtain⟨Y,h0,h⟩:=az5.1 h;have Z:=acR h0
  split at h
  ·
   split at h
   · obtain⟨p,X,rfl⟩:=ayw.1 h;simp [Z]
   · cases h
  · cases h
def aiI (T:aaN)(n:Nat):Nat->Option (List Int×Int)
 | 0=>some (List.replicate n 0,0)
 | i+1=>(aiI T n i).bind fun s=>match T.wrd[i]? with
  | some w=>if w=-1 then some s else if w<0∨(n:Int)<=w∨i=0∨(s.1[w.toNat]?).getD 0≠0 then none else some (s.1.set w.toNat i,s.2+1)
  | none=>none
def ajF (Z:List (List Int))(at_:List Int):Nat->Option (List (List Int))
 | 0=>some []
 | k+1=>(ajF Z at_ k).bind fun l=>match at_[k]? with
  | some i=>if i=0 then none else (Z[i.toNat]?).map fun x=>l++[x]
  | none=>none
def nuO (T:aaN)(Z:List (List Int)):Option (List (List Int)):=(aiI T Z.length T.wrd.length).bind fun s=>ajF Z s.1 s.2.toNat
def eqT (T U:aaN):Bool:=decide (T.up=U.up)&&decide (T.dep=U.dep)&&decide (T.wrd=U.wrd)&&decide (T.byt=U.byt)
theorem apF {T U:aaN}:eqT T U=true↔T=U:=by
 obtain⟨a,b,c,d⟩:=T;obtain⟨X,b',Y,Z⟩:=U;simp [eqT,and_assoc]
def abI (T:aaN):Option (List (List Int)×List (List Int)):=
 (spO T).bind fun Z=>(nuO T Z).bind fun ws=>if (aan false ws&&eqT (aa5 ws) T)=true then some (Z,ws) else none
section
variable {ws:List (List Int)}
theorem alK (w:List Int):aai false w=w:=by simp [aai]
theorem acW (h:aan false ws=true):1<=(aa0 ws).length/\(aa0 ws).length<=400:=by
 have h1:=(aaH h).2.2.2.2.1;have h2:=adG false (wss:=ws) (fun w _=>alK w);have h3:(aa0 ws).length≠0:=fun e=>adD ws (ayk e);omega
theorem avX {i:Nat}{x:List Int}(h:(aa0 ws)[i]?=some x)(h0:x≠[]):∃j,j<i/\(aa0 ws)[j]?=some x.dropLast/\aaR (aa0 ws) x.dropLast=j:=by
 have U:=aac ws;have H:x.dropLast∈aa0 ws:=(aal ws).2 ((aal ws).1 (ay9 h)).up;obtain⟨j,X⟩:=ayB H;refine⟨j,?_,X,aae U.nodup X⟩;have J:x.dropLast.length<x.length:=by
  rw [List.length_dropLast];have:x.length≠0:=fun e=>h0 (ayk e);omega
 have V:=(awR.1 h);have Y:=(awR.1 X)
 rcases az6 j i with Z | D
 · exact Z
 ·
  exfalso
  rcases az6 i j with Z | I
  · have N:=List.pairwise_iff_getElem.1 U i j V.1 Y.1 Z;rw [V.2,Y.2] at N;have:=alF N;omega
  ·
   have e:i=j:=by omega
   subst e;rw [h] at X;have:=congrArg List.length (awV X);omega
theorem ahP {x:List Int}(h:x≠[]):x.dropLast++[acH x]=x:=by
 unfold acH;rw [az7 h,ayr];exact ayO h
theorem asH {i:Nat}{x:List Int}(h:(aa0 ws)[i+1]?=some x):x≠[]:=by
 intro e;subst e;have h0:=aaf ws;have Z:=(aac ws).nodup;have:=agf Z h0 h;omega
theorem akE:∀i,1<=i->i<=(aa0 ws).length->ahD (aa5 ws) i=some ((aa0 ws).take i)
 | 0,h,_=>by omega
 | 1,_,_=>by
  have h0:=aaf ws
  revert h0
  cases aa0 ws with
  | nil=>intro h;cases h
  | cons a l=>intro h;simp at h;simp [ahD,h]
 | i+2,_,h=>by
  have V:=akE (i+1) (by omega) (by omega);obtain⟨x,Z⟩:∃x,(aa0 ws)[i+1]?=some x:=⟨(aa0 ws)[i+1]'(by omega),by simp⟩;have h0:=asH Z;obtain⟨j,U,X,Y⟩:=avX Z h0;unfold ahD;rw [V,az8];have J:(aa5 ws).up[i+1]?=some (j:Int):=by simp [aa5,Z,Y]
  have N:(aa5 ws).byt[i+1]?=some (acH x):=by simp [aa5,Z]
  rw [J,N];dsimp only;rw [if_pos ⟨by omega,by omega⟩,axs,awS,if_pos U,X,awW,ahP h0,aa7 Z]
theorem amJ (h:aan false ws=true):spO (aa5 ws)=some (aa0 ws):=by
 obtain⟨h1,h2⟩:=acW h;unfold spO;have e:(aa5 ws).up.length=(aa0 ws).length:=by simp [aa5]
 rw [if_pos ⟨by rw [e];exact h1,by rw [e];exact h2,by simp [aa5],by simp [aa5],by simp [aa5]⟩,e,akE _ h1 (axe _),ayS]
def atW (ws:List (List Int))(i w:Nat):Int:=match ws[w]? with
 | some x=>if (aa0 ws).idxOf x<i then ((aa0 ws).idxOf x:Int) else 0
 | none=>0
theorem akm {w:Nat}{x:List Int}(Y:ws[w]?=some x)(h0:x≠[]):∃j,1<=j/\(aa0 ws)[j]?=some x/\(aa0 ws).idxOf x=j:=by
 have X:x∈aa0 ws:=(aal ws).2 (ae6.iff.2 (.inr ⟨h0,x,ay9 Y,List.prefix_refl _⟩));obtain⟨j,Z⟩:=ayB X;refine⟨j,?_,Z,?_⟩
 ·
  by_cases e:j=0
  · subst e;rw [aaf] at Z;exact absurd (awV Z).symm h0
  · omega
 ·
  have:=List.Nodup.idxOf_getElem (aac ws).nodup j (awR.1 Z).1
  rwa [(awR.1 Z).2] at this
def aml (ws:List (List Int))(i:Nat):Int:=((ws.filter fun x=>decide ((aa0 ws).idxOf x<i)).length:Int)
theorem aiK (h:aan false ws=true):ws.length<(aa0 ws).length:=by
 obtain⟨U,_⟩:=abr h;have h3:=(aaH h).2.2.1;have X:([] :: ws).Nodup:=by
  rw [List.nodup_cons];exact⟨fun V=>(h3 _ V).1 rfl,U⟩
 have Y:([] :: ws) ⊆ aa0 ws:=fun x Z=>by
  rw [aal,ae6.iff]
  rcases axG.1 Z with e | Z
  · exact .inl e
  · exact .inr ⟨fun e=>by subst e;exact (h3 _ Z).1 rfl,x,Z,List.prefix_refl _⟩
 have:=X.length_le_of_subset Y;rw [axU] at this;omega
theorem avO {i w:Nat}(V:w<ws.length)(h:aan false ws=true):∃j x,1<=j/\ws[w]?=some x/\(aa0 ws)[j]?=some x/\atW ws i w=if j<i then (j:Int) else 0:=by
 obtain⟨x,Z⟩:∃x,ws[w]?=some x:=⟨ws[w]'V,by simp⟩;have h3:=((aaH h).2.2.1 x (ay9 Z)).1;obtain⟨j,U,Y,X⟩:=akm Z (fun e=>h3 (by rw [e];rfl));refine⟨j,x,U,Z,Y,?_⟩;unfold atW;rw [Z];dsimp only;rw [X]
theorem ajT (h:aan false ws=true):∀i,i<=(aa0 ws).length->aiI (aa5 ws) (aa0 ws).length i=some ((List.range (aa0 ws).length).map (fun w=>atW ws i w),aml ws i)
 | 0,_=>by
  unfold aiI;have e1:(fun w=>atW ws 0 w)=fun _=>0:=by
   funext w
   unfold atW
   split<;>simp
  have U:aml ws 0=0:=by simp [aml]
  rw [e1,U];simp [List.map_const']
 | i+1,hi=>by
  have ih:=ajT h i (by omega);obtain⟨g1,_⟩:=abr h;have a7:=(aac ws).nodup;obtain⟨x,H⟩:∃x,(aa0 ws)[i]?=some x:=⟨(aa0 ws)[i]'(by omega),by simp⟩;have X:(aa0 ws).idxOf x=i:=by
   have:=List.Nodup.idxOf_getElem a7 i (by omega)
   rwa [(awR.1 H).2] at this
  unfold aiI;rw [ih,az8];have ew:(aa5 ws).wrd[i]?=some (aaR ws x):=by simp [aa5,H]
  rw [ew];dsimp only;have Y:∀y∈ws,(aa0 ws).idxOf y=i->y=x:=fun y N e=>by
   have j:y∈aa0 ws:=by
    rw [aal,ae6.iff];exact .inr ⟨fun e=>by subst e;exact ((aaH h).2.2.1 _ N).1 rfl,y,N,List.prefix_refl _⟩
   have h1:=List.getElem_idxOf (List.idxOf_lt_length_of_mem j);have h2:=(awR.1 H).2;rw [<-h1,<-h2];congr 1
  by_cases B:x∈ws
  ·
   obtain⟨w,C⟩:=ayB B;have aa:=(awR.1 C).1;have a8:=aiK h;have hp:=aae g1 C;have a6:x≠[]:=fun e=>by subst e;exact ((aaH h).2.2.1 _ B).1 rfl
   have ab:i≠0:=fun e=>by
    subst e;rw [aaf] at H;exact a6 (awV H).symm
   rw [hp,if_neg (by omega),axs];have ea:atW ws i w=0:=by unfold atW;rw [C];dsimp only;rw [X,if_neg (by omega)]
   have eg:(((List.range (aa0 ws).length).map (fun w=>atW ws i w))[w]?).getD 0=0:=by
    rw [axa,axS (by omega)]
    simpa using ea
   rw [if_neg (by rw [eg];omega)];congr 1;refine Prod.ext ?_ ?_
   ·
    dsimp only
    apply ayX
    intro v;rw [ayH]
    by_cases e:w=v
    ·
     subst e;have D:w<(aa0 ws).length:=by omega
     have e1:atW ws (i+1) w=i:=by unfold atW;rw [C];dsimp only;rw [X,if_pos (by omega)]
     simp [D,e1]
    ·
     rw [if_neg e,axa,axa]
     by_cases hv:v<(aa0 ws).length
     ·
      rw [axS hv];simp only [awW,ayN];unfold atW
      cases s:ws[v]? with
      | none=>rfl
      | some y=>
       dsimp only;have V:(aa0 ws).idxOf y≠i:=fun U=>by
        have:=Y y (ay9 s) U;subst this;exact e (agf g1 C s)
       by_cases Z:(aa0 ws).idxOf y<i
       · rw [if_pos Z,if_pos (by omega)]
       · rw [if_neg Z,if_neg (by omega)]
     · rw [az0 (by simpa using hv)];rfl
   ·
    dsimp only;unfold aml;have o:∀(l:List (List Int)),l.Nodup->x∈l->(∀y∈l,(aa0 ws).idxOf y=i->y=x)->(l.filter fun y=>decide ((aa0 ws).idxOf y<i+1)).length=(l.filter fun y=>decide ((aa0 ws).idxOf y<i)).length+1:=by
     intro l
     induction l with
     | nil=>intro _ h;cases h
     | cons y l ihl=>
      intro hn a1 hu;rw [List.nodup_cons] at hn
      by_cases e:y=x
      ·
       subst e;have J:∀z∈l,(decide ((aa0 ws).idxOf z<i+1))=decide ((aa0 ws).idxOf z<i):=fun z A=>by
        have V:(aa0 ws).idxOf z≠i:=fun U=>by
         have:=hu z (by simp [A]) U;subst this;exact hn.1 A
        rw [decide_eq_decide];omega
       rw [List.filter_cons,List.filter_cons,if_pos (by rw [X];simp),if_neg (by rw [X];simp),axU,List.filter_congr J]
      ·
       have a2:x∈l:=(axG.1 a1).resolve_left (fun U=>e U.symm);have V:(aa0 ws).idxOf y≠i:=fun U=>e (hu y (by simp) U);have I:=ihl hn.2 a2 (fun z A=>hu z (by simp [A]));rw [List.filter_cons,List.filter_cons]
       by_cases Z:(aa0 ws).idxOf y<i
       · rw [if_pos (by simp;omega),if_pos (by simpa using Z),axU,axU,I]
       · rw [if_neg (by simp;omega),if_neg (by simpa using Z),I]
    rw [o ws g1 B Y];omega
  ·
   rw [agt B,if_pos rfl];congr 1;have V:∀y∈ws,(aa0 ws).idxOf y≠i:=fun y N e=>B (Y y N e ▸ N);refine Prod.ext ?_ ?_
   ·
    dsimp only
    apply axD
    intro v _;unfold atW
    cases s:ws[v]? with
    | none=>rfl
    | some y=>
     dsimp only;have:=V y (ay9 s)
     by_cases Z:(aa0 ws).idxOf y<i
     · rw [if_pos Z,if_pos (by omega)]
     · rw [if_neg Z,if_neg (by omega)]
   · dsimp only;have ef:(ws.filter fun y=>decide ((aa0 ws).idxOf y<i+1))=ws.filter fun y=>decide ((aa0 ws).idxOf y<i):=List.filter_congr (fun y N=>by have:=V y N;rw [decide_eq_decide];omega);unfold aml;rw [ef]
theorem apk (h:aan false ws=true):aml ws (aa0 ws).length=ws.length:=by
 unfold aml;rw [List.filter_eq_self.2];intro y Y;have Z:y∈aa0 ws:=by
  rw [aal,ae6.iff];exact .inr ⟨fun e=>by subst e;exact ((aaH h).2.2.1 _ Y).1 rfl,y,Y,List.prefix_refl _⟩
 simpa using List.idxOf_lt_length_of_mem Z
theorem akP (h:aan false ws=true):∀k,k<=ws.length->ajF (aa0 ws) ((List.range (aa0 ws).length).map (fun w=>atW ws (aa0 ws).length w)) k=some (ws.take k)
 | 0,_=>rfl
 | k+1,hk=>by
  have X:=akP h k (by omega);obtain⟨j,x,U,V,Z,ha⟩:=avO (i:=(aa0 ws).length) (w:=k) (by omega) h;have Y:=(awR.1 Z).1;rw [if_pos Y] at ha;unfold ajF;rw [X,az8,axa,axS (by have:=aiK h;omega)];simp only [awW,ha];rw [if_neg (by omega),axs,Z,awW,aa7 V]
theorem arU (h:aan false ws=true):nuO (aa5 ws) (aa0 ws)=some ws:=by
 unfold nuO;have e:(aa5 ws).wrd.length=(aa0 ws).length:=by simp [aa5]
 rw [e,ajT h _ (axe _),az8];dsimp only;rw [apk h,axs,akP h _ (axe _),ayS]
theorem anU (h:aan false ws=true):abI (aa5 ws)=some (aa0 ws,ws):=by
 unfold abI;rw [amJ h,az8,arU h,az8,if_pos (by rw [h,apF.2 rfl];rfl)]
end
theorem ab6 {T:aaN}{X ws:List (List Int)}:abI T=some (X,ws)↔aan false ws=true/\T=aa5 ws/\X=aa0 ws:=by
 constructor
 ·
  intro h;unfold abI at h;obtain⟨V,h1,h⟩:=az5.1 h;obtain⟨Y,h2,h⟩:=az5.1 h
  split at h
  ·
   rename_i Z
   rw [ayz] at Z;have Z:aan false Y=true/\T=aa5 Y:=⟨Z.1,(apF.1 Z.2).symm⟩
   injection h with h
   injection h with e1 e2
   subst e1 e2;refine⟨Z.1,Z.2,?_⟩;rw [Z.2,amJ Z.1] at h1;exact (awV h1).symm
  · cases h
 · rintro ⟨h1,rfl,rfl⟩;exact anU h1
structure TV where
 ua:Option Addr
 un:Nat
 uc:Nat
 da:Option Addr
 dn:Nat
 dc:Nat
 xa:Option Addr
 xn:Nat
 xc:Nat
 ba:Option Addr
 bn:Nat
 bc:Nat
abbrev TV.cells (t:TV):Array Value:=#[.slice t.ua t.un t.uc,.slice t.da t.dn t.dc,.slice t.xa t.xn t.xc,.slice t.ba t.bn t.bc]
structure Tri (W:World)(t:TV)(T:aaN):Prop where
 up:Sl1 (Value.int .i64) W t.ua t.un T.up
 dep:Sl1 (Value.int .i64) W t.da t.dn T.dep
 wrd:Sl1 (Value.int .i64) W t.xa t.xn T.wrd
 byt:Bys W t.ba t.bn T.byt
 cap:t.un<=t.uc/\t.dn<=t.dc/\t.xn<=t.xc/\t.bn<=t.bc
theorem Tri.below {W Y:World}{t:TV}{T:aaN}(h:Tri W t T)(Z:Below W.heap.size W Y):Tri Y t T:=⟨h.up.below Z,h.dep.below Z,h.wrd.below Z,h.byt.below Z,h.cap⟩
theorem apH (s:Byt):ajY s=acH (toI s):=by
 unfold ajY acH toI;rw [List.getLast?_map]
theorem akI (s:Byt):toI s.dropLast=(toI s).dropLast:=by simp [toI,List.map_dropLast]
theorem auz {s:Byt}:toI s=[]↔s=[]:=by simp [toI]
def arv (wss:List (List Int))(k:Nat)(f:Byt->Option Int):Prop:=∀s:Byt,f s=if toI s∈wss.take k then some (aaR wss (toI s)) else none
theorem arv.start (wss:List (List Int)):arv wss 0 (fun _=>none):=fun s=>by simp
theorem arv.step {wss:List (List Int)}{k:Nat}{f:Byt->Option Int}{x:List Int}(h:arv wss k f)(X:wss.Nodup)(Y:wss[k]?=some x)(V:∀c∈x,0<=c/\c<=255):arv wss (k+1) (fun s=>if s=ofI x then some (k:Int) else f s):=fun s=>by
 rw [aa7 Y];show (if s=ofI x then some (k:Int) else f s)=_
 by_cases e:s=ofI x
 ·
  rw [if_pos e];have Z:toI s=x:=by rw [e,aje V]
  rw [Z,if_pos (by simp),aae X Y]
 ·
  rw [if_neg e,h s];have Z:toI s≠x:=fun Z=>e (by rw [<-Z,auS])
  by_cases h1:toI s∈wss.take k
  · rw [if_pos h1,if_pos (by simp [h1])]
  · rw [if_neg h1,if_neg (by simp [h1,Z])]
theorem arv.get {wss:List (List Int)}{f:Byt->Option Int}(h:arv wss wss.length f)(s:Byt):(f s).getD (-1)=aaR wss (toI s):=by
 rw [h s,ayS]
 by_cases e:toI s∈wss
 · rw [if_pos e];rfl
 · rw [if_neg e,agt e];rfl
theorem MK.putW {base N I Y H z m:Nat}{C v A:Byt->Option Int}{U D X B:List Int}{u d x b:Value}{W V:World}(h:MK base N I Y H z C v U D X B u d x b W)(y:MS V Y m A)(Z:W.grownBy V (some Y)):MK base N I Y H m C A U D X B u d x b V:=by
 have J:=(awU.1 h.box).1;refine⟨(Z.block N J (fun e=>by injection e with e;exact h.lt.2.2.2.2.1 e)).trans h.box,h.up.kept Z (aei h.up h.lt.2.2.1),h.dep.kept Z (aei h.dep h.lt.2.2.1),h.wrd.kept Z (aei h.wrd h.lt.2.2.1),h.byt.kept Z (aei h.byt h.lt.2.2.1),h.s1,h.s2,h.s3,h.s4,h.s5,h.s6,h.nod.kept Z (fun e=>by injection e with e;exact h.lt.2.2.2.2.2 e.symm),y,h.lt,awT h.sz Z.size⟩
theorem asB {Y Z:Nat}(i:Nat)(s:Byt)(h:(aer (.slice none 0 0) (.slice none 0 0) (.slice none 0 0) (.slice none 0 0) Y Z)[i]?=some (afX s)):False:=by
 rcases i with _ | _ | _ | _ | _ | _ | i<;>simp at h
theorem amR {α:Type}{enc:α->Value}{w:World}{base n c:Nat}{e:TypeId}{a:Option Addr}{xs:List α}(h:w.ownsRow base e 1 (.slice a n c) n (xs.map enc)):Sl1 enc w a n xs:=by
 obtain⟨Y,Z,e,_,h1⟩:=aaC h
 injection e with e1 e2 e3
 subst e1;exact h1
theorem arz {wss:List (List Int)}(h:∀x∈wss,∀c∈x,0<=c/\c<=255):∀c∈(aa5 wss).byt,0<=c/\c<=255:=fun c Y=>by
 simp only [aa5,axE] at Y;obtain⟨x,X,rfl⟩:=Y;unfold acH
 cases e:x.getLast? with
 | none=>simp
 | some y=>
  have Z:=List.mem_of_getLast? e
  rcases (aal wss).1 X with h1 | ⟨w,V,k,_,_,h2⟩
  · rw [h1] at Z;cases Z
  · rw [h2] at Z;exact h w V y (axk Z)
theorem abV (v:Value):sep (.slice none 0 0) v:=fun k h _=>by cases h
theorem afQ {fn:Func}{p u:Tmp}{tmps:Array Value}{W:World}{B:Nat}{x y z v:Value}(h:fn.results=#[.cell p 150,.tmp u])(Z:tmps.getD p undef=.pointer (some ⟨B,0,none⟩))(X:W.heap[B]?=some (.cells #[x,y,z,v] 150 (0,0))) :
  (results fn tmps).run ZP W=.ok (.tuple #[.agg #[x,y,z,v],tmps.getD u undef]) W:=by
 have Y:(loadVar 150 ⟨B,0,none⟩).run ZP W=.ok (.agg #[x,y,z,v]) W:=run_loadVar_row W B 150 150 #[x,y,z,v] (0,0) _ X underlying150 rfl (by kernel_rfl);rw [results_cell_tmp h,Z];simp [asAddr,Y,Result.andThen]
abbrev at1:Array Value:=#[.slice none 0 0,.slice none 0 0,.slice none 0 0,.slice none 0 0]
theorem ati (fold:Bool)(a:Option Addr)(X U:Nat)(wss:List (List Int))(w:World)(y:Wds w a X wss)(J:X<=1000000)(z:∀x∈wss,x.length<=1000000)(A:(abo fold wss).length<=1000000)(C:aan fold wss=false) :
  Calls ZP 87 #[.agg (aaF fold a X U)] w fun e w'=>e=.returned (.tuple #[.agg #[.slice none 0 0,.slice none 0 0,.slice none 0 0,.slice none 0 0],.int .i64 2])/\Below w.heap.size w w':=by
 have v:=ax3 C;clear C;have V:Below w.heap.size w ((w.alloc (.cells (aaF fold a X U) 24)).alloc (.cells (at1) 150)):=((axf _ _).alloc (axe _) _).alloc (by simp) _;have D:=ad5 (w:=w.alloc (.cells (aaF fold a X U) 24)) (n:=w.heap.size+1) (by simp) (.cells (at1) 150);have s:=ax3 (aft fold a X U wss _ (y.below V) J z A);go_enter func87,ntmps87
 go_wp2_with fail
 refine s.out.mono ?_;rintro e Z ⟨rfl,I⟩;rw [v.out];have H:Below w.heap.size w Z:=V.trans (I.mono (by simp;omega));have Y:Z.heap[w.heap.size+1]?=some (.cells at1 150 (0,0)):=(I.block _ (by simp)).trans D;have B:w.heap.size+1<Z.heap.size:=(awU.1 Y).1;clear I D;have q0:Z.cell? ⟨w.heap.size+1,0,none⟩=some (.slice none 0 0):=by simp [World.cell?,Y]
 have h:Z.cell? ⟨w.heap.size+1,1,none⟩=some (.slice none 0 0):=by simp [World.cell?,Y]
 have j:Z.cell? ⟨w.heap.size+1,2,none⟩=some (.slice none 0 0):=by simp [World.cell?,Y]
 have o:Z.cell? ⟨w.heap.size+1,3,none⟩=some (.slice none 0 0):=by simp [World.cell?,Y]
 have f0:∀i,Z.frozen? ⟨w.heap.size+1,i,none⟩=false:=fun i=>by simp [World.frozen?,Y]
 go_wp2;have N:=aa4 (i:=3) (aa4 (i:=2) (aa4 (i:=1) (aa4 (i:=0) Y (.slice none 0 0)) (.slice none 0 0)) (.slice none 0 0)) (.slice none 0 0);refine bodyPost_ret (afQ rfl rfl (by simpa using N)) rfl ?_;exact⟨rfl,(((H.setCell (by show w.heap.size<=w.heap.size+1;omega) _).setCell (by show w.heap.size<=w.heap.size+1;omega) _).setCell (by show w.heap.size<=w.heap.size+1;omega) _).setCell (by show w.heap.size<=w.heap.size+1;omega) _⟩
theorem alu (wss:List (List Int)):(abf (wss.map ofI):Int)=ajA wss:=by
 unfold abf ajA
 induction wss with
 | nil=>rfl
 | cons x l ih=>simp only [ax0,List.sum_cons] at ih ⊢;rw [az2,ih];simp [ofI]
theorem ahg (fold:Bool)(a:Option Addr)(N A:Nat)(wss:List (List Int))(w:World)(hA:Wds w a N wss)(aC:N<=1000000)(hM:∀x∈wss,x.length<=1000000)(hT:(abo fold wss).length<=1000000)(hr:aan fold wss=true) :
  Calls ZP 87 #[.agg (aaF fold a N A)] w fun e w'=>∃t:TV,e=.returned (.tuple #[.agg t.cells,.int .i64 0])/\Tri w' t (aa5 wss)/\Below w.heap.size w w':=by
 have HR:=ax3 hr;have HL:=ax3 hA.len;obtain⟨r1,r2,r3,r4,r5,r6⟩:=aaH hr;have az:=(abr hr).1;obtain⟨bm,bl⟩:=acW (abq hr);have b4:abf (wss.map ofI)<=1000000:=by have:=alu wss;omega
 have bg:=ax3 az;have aH:=ax3 hA.bytes;have bp:=@run_makeMap ZP;have be:=ax3 r3;clear hr r2 r3 r4 r5 r6 az;have aj:Below w.heap.size w ((w.alloc (.cells (aaF fold a N A) 24)).alloc (.cells (at1) 150)):=((axf _ _).alloc (axe _) _).alloc (by simp) _;have n1:=ad5 (w:=w.alloc (.cells (aaF fold a N A) 24)) (n:=w.heap.size+1) (by simp) (.cells (at1) 150);have n0:((w.alloc (.cells (aaF fold a N A) 24)).alloc (.cells (at1) 150)).heap[w.heap.size]?=some (.cells (aaF fold a N A) 24 (0,0)):=(axi _ _ _ (by simp)).trans (axg _ _);have HC:=ax3 (aft fold a N A wss _ (hA.below aj) aC hM hT);go_enter func87,ntmps87
 go_wp2_with fail
 refine HC.out.mono ?_;rintro e U ⟨rfl,hb⟩;rw [HR.out];have ak:Below w.heap.size w U:=aj.trans (hb.mono (by simp;omega));have m0:U.heap[w.heap.size]?=some (.cells (aaF fold a N A) 24 (0,0)):=(hb.block _ (by simp;omega)).trans n0;have m1:U.heap[w.heap.size+1]?=some (.cells at1 150 (0,0)):=(hb.block _ (by simp)).trans n1;have av:w.heap.size+1<U.heap.size:=(awU.1 m1).1;clear hb n1 n0 aj;go_upto_region 4 with fail
 obtain⟨W4,a8⟩:∃W4,W4=((U.alloc (Obj.map #[] 0)).alloc (Obj.map #[] 0)).alloc (.cells (aer (.slice none 0 0) (.slice none 0 0) (.slice none 0 0) (.slice none 0 0) U.heap.size (U.heap.size+1)) 230):=⟨_,rfl⟩;have a1:Below U.heap.size U W4:=by rw [a8];exact (((axf _ _).alloc (axe _) _).alloc (by simp) _).alloc (by simp;omega) _
 have X:MK (U.heap.size+1+1+1) (U.heap.size+1+1) U.heap.size (U.heap.size+1) 0 0 (fun _=>none) (fun _=>none) [] [] [] [] (.slice none 0 0) (.slice none 0 0) (.slice none 0 0) (.slice none 0 0) W4:=by
  rw [a8];have aB:=ayV (H:=Unit) (U.alloc (Obj.map #[] 0)) ZP 9 (plainElem ZP 3);rw [ax7] at aB;exact⟨ad5 (by simp) _,ayy _ _ _ _,ayy _ _ _ _,ayy _ _ _ _,ayy _ _ _ _,abV _,abV _,abV _,abV _,abV _,abV _,
   ((MS.start _ (ayV U ZP 9 (plainElem ZP 3))).alloc _).alloc _,(MS.start _ aB).alloc _,⟨by omega,by omega,by omega,by omega,by omega,by omega⟩,by simp⟩
 have V:Below w.heap.size w W4:=ak.trans (a1.mono ak.size);have k0:W4.heap[w.heap.size]?=_:=(a1.block _ (by omega)).trans m0;have k1:W4.heap[w.heap.size+1]?=_:=(a1.block _ av).trans m1;rw [<-a8];clear a8 a1 ak m0 m1;obtain⟨P,hP⟩:∃P,U.heap.size=P:=⟨_,rfl⟩;rw [hP] at X av ⊢;clear hP;have s1:W4.cell? ⟨w.heap.size,1,none⟩=some (.slice a N A):=by simp [World.cell?,k0]
 go_wp2;clear s1
 go_loopw [5,6,19] (fun _ _ aJ wr=>∃(k:Nat) (fW:Byt->Option Int),k<=N/\aJ=.int .i64 k/\Hid (arv wss k fW)/\MK (P+1+1+1) (P+1+1) P (P+1) 0 k (fun _=>none) fW [] [] [] [] (.slice none 0 0) (.slice none 0 0) (.slice none 0 0) (.slice none 0 0) wr/\Below w.heap.size w wr/\wr.heap[w.heap.size]?=some (.cells (aaF fold a N A) 24 (0,0))/\wr.heap[w.heap.size+1]?=some (.cells at1 150 (0,0))) (fun _ _ i _=>N-(intOf i).toNat)
 case atStart=>exact⟨0,_,axh _,rfl,arv.start wss,X,V,k0,k1⟩
 case round=>
  clear X V k0 k1;obtain⟨k,fW,hk,rfl,HW,X,V,k0,k1⟩:=hrel
  by_cases aS:k<N
  ·
   obtain⟨bb,off,ax,lx,cx,x,b5,bt,b1,hx,hX,bq⟩:=(hA.below V).at_ aS;have bo:lx<=1000000:=by have:=adg hM hx;rw [hX.len] at this;exact this
   have cv:=abz hX cx;rw [ani] at cv;have aw:(ofI x).length<=maxLen:=by have:=hX.len;simp [ofI];unfold maxLen;omega
   have aG:=ax3 (HW.out.step bg.out hx (aH.out x (ay9 hx)));obtain⟨s,hs⟩:∃s,ofI x=s:=⟨_,rfl⟩;rw [hs] at cv aw aG;subst b5;have aR:P+1+1<wr.heap.size:=(awU.1 X.box).1;have c5:=X.cells.1.2.2.2.2.2;have aQ:=X.wds;have aX:decide ((k:Int)<N)=true:=by simp;omega
   clear hx hs hX
   go_wp2_with (at_mapUpdate;refine acV rfl _ _ _ rfl rfl aQ (by unfold maxLen;omega) s k (awi (by omega)) rfl rfl aw ?_;intro J aA a6)
   have I:=X.putW aA a6;have ai:Below w.heap.size w J:=V.grown a6 V.size (fun k e=>by cases e;omega);have j0:J.heap[w.heap.size]?=_:=(a6.block _ (by omega) (by intro e;injection e with e;omega)).trans k0;have j1:J.heap[w.heap.size+1]?=_:=(a6.block _ (by omega) (by intro e;injection e with e;omega)).trans k1
   go_roundw
   case rel=>exact⟨k+1,_,by omega,by go_num,aG,I,ai,j0,j1⟩
   case measure=>simp [intOf];omega
  ·
   obtain rfl:k=N:=by omega
   have aX:decide ((k:Int)<k)=false:=by simp
   have bd:Hid (arv wss wss.length fW):=by rw [Hid,HL.out];exact HW.out
   have s1:wr.cell? ⟨w.heap.size,1,none⟩=some (.slice a k A):=by simp [World.cell?,k0]
   go_wp2_with fail
   refine (atq a k A wss wr (hA.below V) aC hM b4).mono ?_;rintro e J ⟨al,nl,cl,l,rfl,ag,hl,aM,hb⟩;have ai:Below w.heap.size w J:=V.trans (hb.mono V.size);have aR:P+1+1<wr.heap.size:=(awU.1 X.box).1;have I:=X.below hb;have ar:wr.heap.size<=J.heap.size:=hb.size;have j1:J.heap[w.heap.size+1]?=_:=(hb.block _ (by omega)).trans k1;have ay:nl=(aa0 wss).length:=by rw [ag,<-hl];simp
   have B:MK J.heap.size (P+1+1) P (P+1) 0 k (fun _=>none) fW ((aa5 wss).up.take 0) ((aa5 wss).dep.take 0) ((aa5 wss).wrd.take 0) ((aa5 wss).byt.take 0) (.slice none 0 0) (.slice none 0 0) (.slice none 0 0) (.slice none 0 0) J:=
    ⟨I.box,ayy _ _ _ _,ayy _ _ _ _,ayy _ _ _ _,ayy _ _ _ _,abV _,abV _,abV _,abV _,abV _,abV _,I.nod,I.wds,⟨by omega,by omega,by omega,by omega,by omega,by omega⟩,axe _⟩
   have am:=ax3 hl;have o:=ax3 ay;have bf:=ax3 ag;have aP:nl<=400:=by omega
   obtain⟨BS,ah⟩:∃BS,J.heap.size=BS:=⟨_,rfl⟩;have b9:Hid (∀q,q<BS->q≠P+1+1->q≠P->J.heap[q]?=J.heap[q]?):=fun _ _ _ _=>rfl;rw [ah] at B ar;obtain⟨_,aa⟩:=aM;obtain⟨g,off,b6,aD,a7⟩:=aa.resolve_left (by omega);obtain⟨x0,af⟩:∃x0,l[0]?=some x0:=⟨l[0]'(by omega),by simp⟩;have aW:g≠P+1+1:=fun e=>by
    have h1:=a7 0 x0 af;rw [e] at h1;have h2:=B.box;simp only [World.cell?,h2] at h1;exact asB _ _ h1
   have aV:g≠P:=fun e=>by
    have h1:=a7 0 x0 af;rw [e] at h1;obtain⟨D,⟨es,b8,h2,_⟩,_⟩:=B.nod;simp [World.cell?,h2] at h1
   have bj:=ax3 a7;rw [ah] at aD;subst b6;clear X I V k0 k1 hb s1 hl ag ay ah b9 aa a7 af;go_wp2
   go_loopw [8,34] (fun _ aI wr=>∃(i:Nat) (fN:Byt->Option Int) (u d x b:Value),i<=nl/\aI=.int .i64 i/\Hid (∀j y,j<i->l[j]?=some y->fN y=some (j:Int))/\MK BS (P+1+1) P (P+1) i k fN fW ((aa5 wss).up.take i) ((aa5 wss).dep.take i) ((aa5 wss).wrd.take i) ((aa5 wss).byt.take i) u d x b wr/\aaz (P+1+1) P BS J wr) (fun _ s _=>nl-(intOf s).toNat)
   case atStart=>exact⟨0,_,_,_,_,_,axh _,rfl,(fun j y h=>by omega),B,aaz.refl _ _ _ _⟩
   case round=>
    clear B;obtain⟨i,fN,u,d,x,b,hi,rfl,HF,Y,C⟩:=hrel
    by_cases bs:i<nl
    ·
     obtain⟨s,hs⟩:∃s,l[i]?=some s:=⟨l[i]'(by have:=bf.out;omega),by simp⟩;have hN:(aa0 wss)[i]?=some (toI s):=by rw [<-am.out,axa,hs];rfl
     have cs:wr.cell? ⟨g,off+i,none⟩=some (afX s):=(axp (C.block g aD aW aV)).trans (bj.out i s hs);have aL:s.length<=32:=by
      have h1:=(aal wss).1 (ay9 hN);have h2:=adR s
      rcases h1 with h1 | ⟨z,hz,q,_,h3,h4⟩
      · rw [h1] at h2;simp at h2;omega
      · have h5:=(be.out z hz).2;rw [h4,ay6] at h2;omega
     obtain⟨uI,a2⟩:∃uI,aaR (aa0 wss) (toI s).dropLast=uI:=⟨_,rfl⟩;have aq:s=[]->uI=0:=fun e=>by
      rw [<-a2,e];exact aae (aac wss).nodup (aaf wss)
     have ap:s≠[]->fN s.dropLast=some uI:=fun e=>by
      obtain⟨j,hj,aT,aN⟩:=avX hN (fun e2=>e (auz.1 e2));rw [<-a2,aN];have h1:(l.map toI)[j]?=some (toI s).dropLast:=by rw [am.out];exact aT
      rw [axa] at h1;obtain⟨y,hy,h2⟩:=ayw.1 h1;rw [<-akI] at h2;rw [<-agE h2];exact HF.out j y hj hy
     have eU:Hid ((aa5 wss).up.take (i+1)=(aa5 wss).up.take i++[uI]):=aa7 (by simp [aa5,hN,a2]);have eD:Hid ((aa5 wss).dep.take (i+1)=(aa5 wss).dep.take i++[(s.length:Int)]):=aa7 (by simp [aa5,hN,adR]);have eX:Hid ((aa5 wss).wrd.take (i+1)=(aa5 wss).wrd.take i++[(fW s).getD (-1)]):=aa7 (by rw [bd.out.get];simp [aa5,hN]);have eB:Hid ((aa5 wss).byt.take (i+1)=(aa5 wss).byt.take i++[ajY s]):=aa7 (by rw [apH];simp [aa5,hN]);have aU:i<(aa0 wss).length:=by have:=o.out;omega
     have lU:((aa5 wss).up.take i).length=i:=by rw [ay6];simp [aa5];omega
     have lD:((aa5 wss).dep.take i).length=i:=by rw [ay6];simp [aa5];omega
     have lX:((aa5 wss).wrd.take i).length=i:=by rw [ay6];simp [aa5];omega
     have lB:((aa5 wss).byt.take i).length=i:=by rw [ay6];simp [aa5];omega
     have bi:Hid (∀j y,j<i+1->l[j]?=some y->(if y=s then some (((aa5 wss).up.take i).length:Int) else fN y)=some (j:Int)):=fun j y hj hy=>by
      by_cases e:j=i
      · subst e;rw [hs] at hy;rw [if_pos (awV hy).symm,lU]
      ·
       have aO:y≠s:=fun e2=>by
        subst e2;have h1:(aa0 wss)[j]?=some (toI y):=by rw [<-am.out,axa,hy];rfl
        exact e (agf (aac wss).nodup h1 hN)
       rw [if_neg aO];exact HF.out j y (by omega) hy
     have ae:=ax3 (auP BS (P+1+1) P (P+1) i k fN fW _ _ _ _ u d x b s uI wr Y (by omega) (by omega) (by omega) (by omega) (by omega) (by omega) aq ap);have aY:decide ((i:Int)<nl)=true:=by simp;omega
     clear Y aq ap hN hs a2 lU lD lX lB HF
     go_wp2_with fail
     refine ae.out.mono ?_;rintro e w6 ⟨rfl,u',d',x',b',aE,ac⟩;have b7:Hid (MK BS (P+1+1) P (P+1) (i+1) k (fun q=>if q=s then some (((aa5 wss).up.take i).length:Int) else fN q) fW ((aa5 wss).up.take (i+1)) ((aa5 wss).dep.take (i+1)) ((aa5 wss).wrd.take (i+1)) ((aa5 wss).byt.take (i+1)) u' d' x' b' w6):=by
      rw [Hid,eU.out,eD.out,eX.out,eB.out];exact aE
     have bh:=ax3 (C.trans ac);clear aE ac C ae cs eU eD eX eB;go_wp2
     go_roundw
     case rel=>exact⟨i+1,_,u',d',x',b',by omega,by go_num,bi,b7.out,bh.out⟩
     case measure=>simp [intOf];omega
    ·
     obtain rfl:i=nl:=by omega
     have aY:decide ((i:Int)<i)=false:=by simp
     have tU:(aa5 wss).up.take i=(aa5 wss).up:=axo (by have:=o.out;simp [aa5];omega);have tD:(aa5 wss).dep.take i=(aa5 wss).dep:=axo (by have:=o.out;simp [aa5];omega);have tX:(aa5 wss).wrd.take i=(aa5 wss).wrd:=axo (by have:=o.out;simp [aa5];omega);have tB:(aa5 wss).byt.take i=(aa5 wss).byt:=axo (by have:=o.out;simp [aa5];omega);rw [tU,tD,tX,tB] at Y;clear tU tD tX tB;have aF:Below w.heap.size w wr:=C.below ai (by omega) (by omega) (by omega);have j7:wr.heap[w.heap.size+1]?=some (.cells at1 150 (0,0)):=(C.block _ (by omega) (by omega) (by omega)).trans j1;obtain⟨au,cu,rfl,b0,_⟩:=aaC Y.up;obtain⟨ad,cd,rfl,b2,_⟩:=aaC Y.dep;obtain⟨ax,cx,rfl,aZ,_⟩:=aaC Y.wrd;obtain⟨ab,cb,rfl,b3,_⟩:=aaC Y.byt;obtain⟨⟨c0,c1,c2,c3,_,_⟩,_⟩:=Y.cells;have q0:wr.cell? ⟨w.heap.size+1,0,none⟩=some (.slice none 0 0):=by simp [World.cell?,j7]
     have q1:wr.cell? ⟨w.heap.size+1,1,none⟩=some (.slice none 0 0):=by simp [World.cell?,j7]
     have q2:wr.cell? ⟨w.heap.size+1,2,none⟩=some (.slice none 0 0):=by simp [World.cell?,j7]
     have q3:wr.cell? ⟨w.heap.size+1,3,none⟩=some (.slice none 0 0):=by simp [World.cell?,j7]
     have f0:∀i,wr.frozen? ⟨w.heap.size+1,i,none⟩=false:=fun i=>by simp [World.frozen?,j7]
     have Z:w.heap.size+1<BS:=by omega
     obtain⟨vU,aK⟩:∃v,v=Value.slice au (aa5 wss).up.length cu:=⟨_,rfl⟩;have rU:=fun v0 v1 v2 v3=>aao (i:=3) (aao (i:=2) (aao (i:=1) (aao (i:=0) Y.up Z v0) Z v1) Z v2) Z v3;have rD:=fun v0 v1 v2 v3=>aao (i:=3) (aao (i:=2) (aao (i:=1) (aao (i:=0) Y.dep Z v0) Z v1) Z v2) Z v3;have rX:=fun v0 v1 v2 v3=>aao (i:=3) (aao (i:=2) (aao (i:=1) (aao (i:=0) Y.wrd Z v0) Z v1) Z v2) Z v3;have rB:=fun v0 v1 v2 v3=>aao (i:=3) (aao (i:=2) (aao (i:=1) (aao (i:=0) Y.byt Z v0) Z v1) Z v2) Z v3;have HU:=ax3 rU;have HD:=ax3 rD;have HX:=ax3 rX;have HB:=ax3 rB;have ao:=aa4 (i:=3) (aa4 (i:=2) (aa4 (i:=1) (aa4 (i:=0) j7 (.slice au (aa5 wss).up.length cu)) (.slice ad (aa5 wss).dep.length cd)) (.slice ax (aa5 wss).wrd.length cx)) (.slice ab (aa5 wss).byt.length cb);have HZ:=ax3 ao;have bk:=ax3 ((((aF.setCell (p:=⟨w.heap.size+1,0,none⟩) (by show w.heap.size<=w.heap.size+1;omega) (.slice au (aa5 wss).up.length cu)).setCell (p:=⟨w.heap.size+1,1,none⟩) (by show w.heap.size<=w.heap.size+1;omega) (.slice ad (aa5 wss).dep.length cd)).setCell (p:=⟨w.heap.size+1,2,none⟩) (by show w.heap.size<=w.heap.size+1;omega) (.slice ax (aa5 wss).wrd.length cx)).setCell (p:=⟨w.heap.size+1,3,none⟩) (by show w.heap.size<=w.heap.size+1;omega) (.slice ab (aa5 wss).byt.length cb));clear Y rU rD rX rB ao aF aK vU j7 C;go_wp2;refine bodyPost_ret (afQ rfl rfl (by simpa using HZ.out)) rfl ?_;refine⟨⟨au,(aa5 wss).up.length,cu,ad,(aa5 wss).dep.length,cd,ax,(aa5 wss).wrd.length,cx,ab,(aa5 wss).byt.length,cb⟩,rfl,⟨amR (HU.out _ _ _ _),amR (HD.out _ _ _ _),amR (HX.out _ _ _ _),⟨amR (HB.out _ _ _ _),arz aH.out⟩,⟨b0,b2,aZ,b3⟩⟩,bk.out⟩
theorem alR (a b:Option Addr)(Y ca U cb:Nat)(l m:List Int)(w:World)(C:Sl1 (Value.int .i64) w a Y l)(D:Sl1 (Value.int .i64) w b U m)(j:Y<=4611686018427387904) :
  Calls ZP 75 #[.slice a Y ca,.slice b U cb] w fun e w'=>e=.returned (.bool (decide (l=m)))/\Below w.heap.size w w':=by
 have s:=ax3 C.1;have v:=ax3 D.1
 by_cases H:Y=U
 ·
  subst H;go_enter func75,ntmps75;go_wp2
  go_loopw [13] (fun i wr=>∃k:Nat,k<=Y/\i=.int .i64 k/\Hid (l.take k=m.take k)/\Below w.heap.size w wr) (fun i _=>Y-(intOf i).toNat)
  case atStart=>exact⟨0,axh _,rfl,by simp [Hid],axf _ _⟩
  case round=>
   obtain⟨k,hk,rfl,z,Z⟩:=hrel
   by_cases V:k<Y
   ·
    obtain⟨b1,o1,x,rfl,a2,x0,I⟩:=abm (C.below Z) V;obtain⟨b2,o2,y,rfl,a1,y0,J⟩:=abm (D.below Z) V;have A:=ax3 I;have B:=ax3 J;clear I J;have hd:decide ((k:Int)<Y)=true:=by simp;omega
    by_cases h:x=y
    ·
     have X:Hid (l.take (k+1)=m.take (k+1)):=by rw [aa7 A.out,aa7 B.out,z.out,h];rfl
     have N:((x:Int) != y)=false:=by simp [h]
     clear h;go_wp2
     go_quiet (fail)
     go_wp2
     go_roundw
     case rel=>exact⟨k+1,by omega,by go_num,X,Z.trans ⟨rfl,rfl,rfl,axe _,fun _ _=>rfl⟩⟩
     case measure=>simp [intOf];omega
    ·
     have X:Hid (decide (l=m)=false):=by
      have:l≠m:=fun e=>by
       have h1:=A.out;rw [e,B.out] at h1;exact h (awV h1).symm
      simp [Hid,this]
     have N:((x:Int) != y)=true:=by simp [h]
     clear h;go_wp2
     go_quiet (fail)
     go_wp2;go_ret;exact⟨by rw [X.out];rfl,Z.trans ⟨rfl,rfl,rfl,axe _,fun _ _=>rfl⟩⟩
   ·
    obtain rfl:k=Y:=by omega
    have X:Hid (decide (l=m)=true):=by
     have h:=z.out;rw [axo (by rw [s.out];exact axe _),axo (by rw [v.out];exact axe _)] at h;simp [Hid,h]
    go_wp2;go_ret;exact⟨by rw [X.out];rfl,Z⟩
 ·
  have X:Hid (decide (l=m)=false):=by
   have:l≠m:=fun e=>H (by rw [<-s.out,<-v.out,e]);simp [Hid,this]
  have o:((Y:Int) != (U:Int))=true:=by simp;omega
  go_enter func75,ntmps75;go_wp2;go_ret;exact⟨by rw [X.out];rfl,axf _ _⟩
theorem auR (a b:Option Addr)(Y ca U cb:Nat)(l m:List Int)(w:World)(C:Sl1 (Value.int .u8) w a Y l)(D:Sl1 (Value.int .u8) w b U m)(j:Y<=4611686018427387904) :
  Calls ZP 74 #[.slice a Y ca,.slice b U cb] w fun e w'=>e=.returned (.bool (decide (l=m)))/\Below w.heap.size w w':=by
 have s:=ax3 C.1;have v:=ax3 D.1
 by_cases H:Y=U
 ·
  subst H;go_enter func74,ntmps74;go_wp2
  go_loopw [13] (fun i wr=>∃k:Nat,k<=Y/\i=.int .i64 k/\Hid (l.take k=m.take k)/\Below w.heap.size w wr) (fun i _=>Y-(intOf i).toNat)
  case atStart=>exact⟨0,axh _,rfl,by simp [Hid],axf _ _⟩
  case round=>
   obtain⟨k,hk,rfl,z,Z⟩:=hrel
   by_cases V:k<Y
   ·
    obtain⟨b1,o1,x,rfl,a2,x0,I⟩:=abm (C.below Z) V;obtain⟨b2,o2,y,rfl,a1,y0,J⟩:=abm (D.below Z) V;have A:=ax3 I;have B:=ax3 J;clear I J;have hd:decide ((k:Int)<Y)=true:=by simp;omega
    by_cases h:x=y
    ·
     have X:Hid (l.take (k+1)=m.take (k+1)):=by rw [aa7 A.out,aa7 B.out,z.out,h];rfl
     have N:((x:Int) != y)=false:=by simp [h]
     clear h;go_wp2
     go_quiet (fail)
     go_wp2
     go_roundw
     case rel=>exact⟨k+1,by omega,by go_num,X,Z.trans ⟨rfl,rfl,rfl,axe _,fun _ _=>rfl⟩⟩
     case measure=>simp [intOf];omega
    ·
     have X:Hid (decide (l=m)=false):=by
      have:l≠m:=fun e=>by
       have h1:=A.out;rw [e,B.out] at h1;exact h (awV h1).symm
      simp [Hid,this]
     have N:((x:Int) != y)=true:=by simp [h]
     clear h;go_wp2
     go_quiet (fail)
     go_wp2;go_ret;exact⟨by rw [X.out];rfl,Z.trans ⟨rfl,rfl,rfl,axe _,fun _ _=>rfl⟩⟩
   ·
    obtain rfl:k=Y:=by omega
    have X:Hid (decide (l=m)=true):=by
     have h:=z.out;rw [axo (by rw [s.out];exact axe _),axo (by rw [v.out];exact axe _)] at h;simp [Hid,h]
    go_wp2;go_ret;exact⟨by rw [X.out];rfl,Z⟩
 ·
  have X:Hid (decide (l=m)=false):=by
   have:l≠m:=fun e=>H (by rw [<-s.out,<-v.out,e]);simp [Hid,this]
  have o:((Y:Int) != (U:Int))=true:=by simp;omega
  go_enter func74,ntmps74;go_wp2;go_ret;exact⟨by rw [X.out];rfl,axf _ _⟩
theorem arr (t v:TV)(T U:aaN)(w:World)(hT:Tri w t T)(hU:Tri w v U)(X:t.un<=4611686018427387904/\t.dn<=4611686018427387904/\t.xn<=4611686018427387904/\t.bn<=4611686018427387904) :
  Calls ZP 278 #[.agg t.cells,.agg v.cells] w fun e w'=>e=.returned (.bool (eqT T U))/\Below w.heap.size w w':=by
 obtain⟨ua,un,uc,da,dn,dc,xa,xn,xc,ba,bn,bc⟩:=t;obtain⟨s,y,x,j,en,o,z,B,A,ca,cn,cc⟩:=v;dsimp only at X;obtain⟨h1,h2,h3,h4⟩:=X;have N:Below w.heap.size w ((w.alloc (.cells #[.slice ua un uc,.slice da dn dc,.slice xa xn xc,.slice ba bn bc] 150)).alloc (.cells #[.slice s y x,.slice j en o,.slice z B A,.slice ca cn cc] 150)):=((axf _ _).alloc (axe _) _).alloc (by simp) _;have hO:Bx w.heap.size [.cells #[.slice ua un uc,.slice da dn dc,.slice xa xn xc,.slice ba bn bc] 150,.cells #[.slice s y x,.slice j en o,.slice z B A,.slice ca cn cc] 150] ((w.alloc (.cells #[.slice ua un uc,.slice da dn dc,.slice xa xn xc,.slice ba bn bc] 150)).alloc (.cells #[.slice s y x,.slice j en o,.slice z B A,.slice ca cn cc] 150)):=
  ((Bx.nil _ w).snoc _ rfl).snoc _ (by simp)
 have C:=hT.below N;have D:=hU.below N;obtain⟨TU,TD,TX,TB⟩:=T;obtain⟨UU,UD,UX,UB⟩:=U;have HE:Hid (eqT ⟨TU,TD,TX,TB⟩ ⟨UU,UD,UX,UB⟩=(decide (TU=UU)&&decide (TD=UD)&&decide (TX=UX)&&decide (TB=UB))):=rfl;have k1:=fun (V:World) (Z:Below ((w.alloc (.cells #[.slice ua un uc,.slice da dn dc,.slice xa xn xc,.slice ba bn bc] 150)).alloc (.cells #[.slice s y x,.slice j en o,.slice z B A,.slice ca cn cc] 150)).heap.size _ V)=>alR ua s un uc y x TU UU V (C.up.below Z) (D.up.below Z) h1;have k2:=fun (V:World) (Z:Below ((w.alloc (.cells #[.slice ua un uc,.slice da dn dc,.slice xa xn xc,.slice ba bn bc] 150)).alloc (.cells #[.slice s y x,.slice j en o,.slice z B A,.slice ca cn cc] 150)).heap.size _ V)=>alR da j dn dc en o TD UD V (C.dep.below Z) (D.dep.below Z) h2;have k3:=fun (V:World) (Z:Below ((w.alloc (.cells #[.slice ua un uc,.slice da dn dc,.slice xa xn xc,.slice ba bn bc] 150)).alloc (.cells #[.slice s y x,.slice j en o,.slice z B A,.slice ca cn cc] 150)).heap.size _ V)=>alR xa z xn xc B A TX UX V (C.wrd.below Z) (D.wrd.below Z) h3;have k4:=fun (V:World) (Z:Below ((w.alloc (.cells #[.slice ua un uc,.slice da dn dc,.slice xa xn xc,.slice ba bn bc] 150)).alloc (.cells #[.slice s y x,.slice j en o,.slice z B A,.slice ca cn cc] 150)).heap.size _ V)=>auR ba ca bn bc cn cc TB UB V (C.byt.below Z).1 (D.byt.below Z).1 h4
 generalize decide (TU=UU)=b1 at k1 HE
 generalize decide (TD=UD)=b2 at k2 HE
 generalize decide (TX=UX)=b3 at k3 HE
 generalize decide (TB=UB)=b4 at k4 HE
 have K1:=ax3 k1;have K2:=ax3 k2;have K3:=ax3 k3;have K4:=ax3 k4;clear k1 k2 k3 k4 hT hU C D;obtain⟨W,hW⟩:∃W,W=((w.alloc (.cells #[.slice ua un uc,.slice da dn dc,.slice xa xn xc,.slice ba bn bc] 150)).alloc (.cells #[.slice s y x,.slice j en o,.slice z B A,.slice ca cn cc] 150)):=⟨_,rfl⟩;rw [<-hW] at N hO K1 K2 K3 K4;have cells:∀V,Below W.heap.size W V->(V.cell? ⟨w.heap.size,0,none⟩=some (.slice ua un uc)/\V.cell? ⟨w.heap.size,1,none⟩=some (.slice da dn dc)/\V.cell? ⟨w.heap.size,2,none⟩=some (.slice xa xn xc)/\V.cell? ⟨w.heap.size,3,none⟩=some (.slice ba bn bc))/\
   (V.cell? ⟨w.heap.size+1,0,none⟩=some (.slice s y x)/\V.cell? ⟨w.heap.size+1,1,none⟩=some (.slice j en o)/\V.cell? ⟨w.heap.size+1,2,none⟩=some (.slice z B A)/\V.cell? ⟨w.heap.size+1,3,none⟩=some (.slice ca cn cc)):=fun V Z=>by
  have h:=hO.below Z;exact⟨⟨h.cell (i:=0) rfl rfl,h.cell (i:=0) rfl rfl,h.cell (i:=0) rfl rfl,h.cell (i:=0) rfl rfl⟩,⟨h.cell (i:=1) rfl rfl,h.cell (i:=1) rfl rfl,h.cell (i:=1) rfl rfl,h.cell (i:=1) rfl rfl⟩⟩
 have HC:=ax3 cells;clear cells hO;have a1:∀(V:World) (b:Bool),Below W.heap.size W V->b=eqT ⟨TU,TD,TX,TB⟩ ⟨UU,UD,UX,UB⟩->Ending.returned (.bool b)=.returned (.bool (eqT ⟨TU,TD,TX,TB⟩ ⟨UU,UD,UX,UB⟩))/\Below w.heap.size w V:=fun V b Z X=>⟨by rw [X],N.trans (Z.mono N.size)⟩;have Y:=ax3 a1;clear a1 N;go_enter func278,ntmps278;go_upto_region 1 with fail
 rw [<-hW];clear hW;obtain⟨⟨c0,c1,c2,c3⟩,d0,d1,d2,d3⟩:=HC.out W (axf _ _)
 go_wp2_with fail
 refine (K1.out W (axf _ _)).mono ?_;rintro e w1 ⟨rfl,H⟩;clear c0 c1 c2 c3 d0 d1 d2 d3;obtain⟨⟨c0,c1,c2,c3⟩,d0,d1,d2,d3⟩:=HC.out w1 H
 cases b1 with
 | false=>
  go_wp2;go_ret;exact Y.out w1 false H (by rw [HE.out];rfl)
 | true=>
  go_wp2_with fail
  refine (K2.out w1 H).mono ?_;rintro e w2 ⟨rfl,X⟩;have I:=H.trans (X.mono H.size);clear c0 c1 c2 c3 d0 d1 d2 d3 X;obtain⟨⟨c0,c1,c2,c3⟩,d0,d1,d2,d3⟩:=HC.out w2 I
  cases b2 with
  | false=>
   go_wp2;go_ret;exact Y.out w2 false I (by rw [HE.out];rfl)
  | true=>
   go_wp2_with fail
   refine (K3.out w2 I).mono ?_;rintro e w3 ⟨rfl,X⟩;have J:=I.trans (X.mono I.size);clear c0 c1 c2 c3 d0 d1 d2 d3 X;obtain⟨⟨c0,c1,c2,c3⟩,d0,d1,d2,d3⟩:=HC.out w3 J
   cases b3 with
   | false=>
    go_wp2;go_ret;exact Y.out w3 false J (by rw [HE.out];rfl)
   | true=>
    go_wp2_with fail
    refine (K4.out w3 J).mono ?_;rintro e w4 ⟨rfl,X⟩;have a2:=J.trans (X.mono J.size);clear c0 c1 c2 c3 d0 d1 d2 d3 X;go_wp2;go_ret;exact Y.out w4 b4 a2 (by rw [HE.out];cases b4<;>rfl)
def agC (W V:World):Prop:=W.heap.size<=V.heap.size/\∀(k:Nat) (cs:Array Value) (t:TypeId) (f:Nat×Nat),W.heap[k]?=some (Obj.cells cs t f)->V.heap[k]?=some (Obj.cells cs t f)
theorem agC.cell {W V:World}(h:agC W V){a:Addr}{v:Value}(Z:W.cell? a=some v):V.cell? a=some v:=by
 cases ho:W.heap[a.block]? with
 | none=>simp [World.cell?,ho] at Z
 | some o=>
  cases o with
  | cells cs t f=>
   rw [<-Z];exact axp ((h.2 _ _ _ _ ho).trans ho.symm)
  | _=>simp [World.cell?,ho] at Z
theorem agC.sl1 {α:Type}{enc:α->Value}{W V:World}(h:agC W V){a:Option Addr}{n:Nat}{xs:List α}(Y:Sl1 enc W a n xs):Sl1 enc V a n xs:=
 ⟨Y.1,Y.2.imp id fun ⟨b,off,e,Z,U⟩=>⟨b,off,e,ax6 Z h.1,fun i x X=>h.cell (U i x X)⟩⟩
def aaL (c:Int):Bool:=decide (97<=c/\c<=122)
def inB (fold:Bool)(ws:List (List Int))(c:Int):Bool:=ws.any fun w=>w.any fun x=>decide (x=c) || (fold&&aaL x&&decide (x-32=c))
def abg (p:Int->Bool)(fold:Bool):Nat->List Int×Nat
 | 0=>([],1)
 | i+1=>if p i=false then ((abg p fold i).1++[0],(abg p fold i).2)
  else if (fold&&aaL i)=true then ((abg p fold i).1++[((abg p fold i).1[i-32]?).getD 0],(abg p fold i).2)
  else ((abg p fold i).1++[((abg p fold i).2:Int)],(abg p fold i).2+1)
theorem acL (p:Int->Bool)(fold:Bool)(i:Nat):abg p fold (i+1)=if p i=false then ((abg p fold i).1++[0],(abg p fold i).2)
  else if (fold&&aaL i)=true then ((abg p fold i).1++[((abg p fold i).1[i-32]?).getD 0],(abg p fold i).2)
  else ((abg p fold i).1++[((abg p fold i).2:Int)],(abg p fold i).2+1):=rfl
theorem acr (p:Int->Bool)(fold:Bool):∀i,(abg p fold i).1.length=i
 | 0=>rfl
 | i+1=>by
  have Z:=acr p fold i;unfold abg
  split
  · simp [Z]
  · split<;>simp [Z]
theorem abj (p:Int->Bool)(fold:Bool):∀i,1<=(abg p fold i).2/\(abg p fold i).2<=i+1
 | 0=>⟨axe _,axe _⟩
 | i+1=>by
  have Z:=abj p fold i;unfold abg
  split
  · exact⟨Z.1,by show (abg p fold i).2<=_;omega⟩
  ·
   split
   · exact⟨Z.1,by show (abg p fold i).2<=_;omega⟩
   · exact⟨by show 1<=(abg p fold i).2+1;omega,by show (abg p fold i).2+1<=_;omega⟩
theorem amG (p:Int->Bool)(fold:Bool){j:Nat}:∀{i},j<i->(abg p fold i).1[j]?=(abg p fold (j+1)).1[j]?
 | 0,h=>absurd h (Nat.not_lt_zero _)
 | i+1,h=>by
  by_cases Y:j=i
  · subst Y;rfl
  ·
   have Z:=amG p fold (j:=j) (i:=i) (by omega);rw [<-Z];have X:=acr p fold i
   conv=>lhs;unfold abg
   split
   · exact ax8 (by omega)
   ·
    split
    · exact ax8 (by omega)
    · exact ax8 (by omega)
def ade (fold:Bool)(ws:List (List Int)):List Int:=(abg (inB fold ws) fold 256).1
def aat (fold:Bool)(ws:List (List Int)):Nat:=(abg (inB fold ws) fold 256).2
theorem acZ (fold:Bool)(ws:List (List Int)):(ade fold ws).length=256:=acr _ _ _
theorem aq4 (p:Int->Bool)(fold:Bool){j i:Nat}(h:j<i):(abg p fold i).1[j]?=some (if p j=false then 0 else if (fold&&aaL j)=true then ((abg p fold j).1[j-32]?).getD 0 else ((abg p fold j).2:Int)):=by
 rw [amG p fold h,acL];have Z:=acr p fold j
 split
 · rw [az9 (by omega),Z,ayh];rfl
 ·
  split
  · rw [az9 (by omega),Z,ayh];rfl
  · rw [az9 (by omega),Z,ayh];rfl
theorem alc (c:Int)(w:World) :
  Calls ZP 218 #[.int .u8 c] w fun e w'=>e=.returned (.bool (aaL c))/\Below w.heap.size w w':=by
 have X:Hid (aaL c=(decide (97<=c)&&decide (c<=122))):=by
  unfold Hid aaL;rw [Bool.decide_and]
 by_cases h1:97<=c
 ·
  have Z:decide ((97:Int)<=c)=true:=by simpa using h1
  by_cases h2:c<=122
  ·
   have Y:decide (c<=(122:Int))=true:=by simpa using h2
   go_enter func218,ntmps218;go_wp2;go_ret;exact⟨by rw [X.out,Z,Y];rfl,axf _ _⟩
  ·
   have Y:decide (c<=(122:Int))=false:=by simpa using h2
   go_enter func218,ntmps218;go_wp2;go_ret;exact⟨by rw [X.out,Z,Y];rfl,axf _ _⟩
 ·
  have Z:decide ((97:Int)<=c)=false:=by simpa using h1
  go_enter func218,ntmps218;go_wp2;go_ret;exact⟨by rw [X.out,Z];rfl,axf _ _⟩
theorem aht (c:Int)(w:World)(h:32<=c/\c<=255) :
  Calls ZP 220 #[.int .u8 c] w fun e w'=>e=.returned (.int .u8 (c-32))/\Below w.heap.size w w':=by
 have Z:IntKind.u8.wrap (c-32)=c-32:=by simp [IntKind.wrap,IntKind.bits,IntKind.signed];omega
 obtain⟨d,Y⟩:∃d,c-32=d:=⟨_,rfl⟩;have X:0<=d/\d<=255:=by omega
 go_enter func220,ntmps220;go_wp2;go_ret;refine⟨?_,axf _ _⟩
 first | rfl | (simp [Z];try exact Y.symm)
def TB (W:World)(B:Nat)(l:List Bool):Prop:=W.heap[B]?=some (.cells (l.map Value.bool).toArray 315 (0,0))/\l.length=256
theorem aq6:Tryz.zeroCells315=((List.replicate 256 false).map Value.bool).toArray:=by kernel_rfl
theorem atE:Tryz.zeroCells144=((List.replicate 256 (0:Int)).map (Value.int .i64)).toArray:=by kernel_rfl
def ae2 (l:List Bool)(f:Nat->Bool):Prop:=∀c:Nat,c<256->l[c]?=some (f c)
theorem TB.cell {W:World}{B:Nat}{l:List Bool}(h:TB W B l){c:Nat}(Z:c<256):∃b,W.cell? ⟨B,c,none⟩=some (.bool b)/\W.frozen? ⟨B,c,none⟩=false:=by
 obtain⟨h1,h2⟩:=h;refine⟨l[c]'(by omega),?_,?_⟩
 · simp [World.cell?,h1,show c<l.length by omega]
 · simp [World.frozen?,h1]
theorem TB.lt {W:World}{B:Nat}{l:List Bool}(h:TB W B l):B<W.heap.size:=(awU.1 h.1).1
theorem TB.below {W V:World}{B:Nat}{l:List Bool}(h:TB W B l)(Z:Below W.heap.size W V):TB V B l:=⟨(Z.block B h.lt).trans h.1,h.2⟩
theorem TB.set {W:World}{B:Nat}{l:List Bool}(h:TB W B l)(c:Nat)(x:Bool):TB (W.setCell ⟨B,c,none⟩ (.bool x)) B (l.set c x):=by
 refine⟨?_,by rw [axb];exact h.2⟩;rw [aa4 h.1,axc];simp
theorem ae2.set {l:List Bool}{f:Nat->Bool}(h:ae2 l f)(X:l.length=256){y:Nat}(Y:y<256):ae2 (l.set y true) (fun c=>f c || decide (y=c)):=fun c Z=>by
 rw [ayH]
 by_cases e:y=c
 · subst e;rw [if_pos rfl,if_pos (by omega)];simp
 · rw [if_neg e,h c Z];simp [e]
theorem ae2.congr {l:List Bool}{f g:Nat->Bool}(h:ae2 l f)(Y:∀c,c<256->f c=g c):ae2 l g:=fun c Z=>by rw [h c Z,Y c Z]
theorem ae2.all {l:List Bool}{f:Nat->Bool}(h:ae2 l f)(Y:l.length=256):l=(List.range 256).map f:=by
 apply ayX
 intro i
 by_cases Z:i<256
 ·
  rw [h i Z,axa,axS Z]
  rfl
 · rw [az0 (by omega),az0 (by simp;omega)]
def inX (fold:Bool)(x:List Int)(c:Int):Bool:=x.any fun y=>decide (y=c) || (fold&&aaL y&&decide (y-32=c))
theorem aqQ (fold:Bool)(ws:List (List Int))(c:Int):inB fold ws c=ws.any fun x=>inX fold x c:=rfl
theorem ata {fold:Bool}{ws:List (List Int)}{k:Nat}{x:List Int}(Z:ws[k]?=some x)(c:Int):inB fold (ws.take (k+1)) c=(inB fold (ws.take k) c || inX fold x c):=by
 rw [aqQ,aqQ,aa7 Z,List.any_append];simp
theorem ajf {fold:Bool}{x:List Int}{j:Nat}{y:Int}(Z:x[j]?=some y)(c:Int):inX fold (x.take (j+1)) c=(inX fold (x.take j) c || (decide (y=c) || (fold&&aaL y&&decide (y-32=c)))):=by
 unfold inX;rw [aa7 Z,List.any_append];simp
theorem aga (n c:Nat):decide ((n:Int)=(c:Int))=decide (n=c):=decide_eq_decide.2 (by omega)
def avd (fold:Bool)(ws:List (List Int)):List Bool:=(List.range 256).map fun c:Nat=>inB fold ws (c:Int)
theorem aui:(ZP.info? 315).map (·.size)=some 256:=by kernel_rfl
theorem apJ:(ZP.info? 144).map (·.size)=some 256:=by kernel_rfl
theorem abS {B:Nat}{v w:World}(h:RowKit.Below B v w){g:Nat}(Y:B<=g)(cs:Array Value):RowKit.Below B v (w.setRow g cs):=by
 refine h.trans ⟨rfl,rfl,rfl,by simp [World.setRow],fun k Z=>?_⟩;unfold World.setRow;simp only [axy];rw [if_neg (by omega)]
theorem av1 (fold:Bool)(a:Option Addr)(Y ca:Nat)(wss:List (List Int))(w:World)(hA:Wds w a Y wss)(aM:Y<=1000000)(hM:∀x∈wss,x.length<=1000000) :
  Calls ZP 217 #[.agg (aaF fold a Y ca)] w fun e w'=>e=.returned (.agg ((avd fold wss).map Value.bool).toArray)/\Below w.heap.size w w':=by
 have HL:=ax3 hA.len;have HM:=ax3 hM;obtain⟨W,hW⟩:∃W,W=((w.alloc (.cells (aaF fold a Y ca) 24)).alloc (.cells Tryz.zeroCells315 315)).alloc (.cells Tryz.zeroCells315 315):=⟨_,rfl⟩;have hB:Below w.heap.size w W:=by rw [hW];exact (((axf _ _).alloc (axe _) _).alloc (by simp) _).alloc (by simp;omega) _
 have hO:Bx w.heap.size [.cells (aaF fold a Y ca) 24,.cells Tryz.zeroCells315 315,.cells Tryz.zeroCells315 315] W:=by rw [hW];exact (((Bx.nil _ w).snoc _ rfl).snoc _ (by simp)).snoc _ (by simp)
 have v:W.heap.size=w.heap.size+1+1+1:=by rw [hW];simp
 have h0:W.heap[w.heap.size]?=some (.cells (aaF fold a Y ca) 24 (0,0)):=hO 0 _ rfl;have h1:W.heap[w.heap.size+1]?=some (.cells Tryz.zeroCells315 315 (0,0)):=hO 1 _ rfl;have hT:TB W (w.heap.size+1+1) (List.replicate 256 false):=⟨by rw [<-aq6];exact hO 2 _ rfl,by simp⟩;have ap:Hid (ae2 (List.replicate 256 false) (fun c=>inB fold (wss.take 0) (c:Int))):=fun c hc=>by
  rw [ayJ,if_pos hc,List.take_zero]
  rfl
 have HA:=ax3 hA;have HB:=ax3 hB;have aH:=ax3 h0;have aG:=ax3 h1;have aE:=ax3 v;have HT:=ax3 hT;have s1:W.cell? ⟨w.heap.size,1,none⟩=some (.slice a Y ca):=hO.cell (i:=0) rfl rfl;clear hA hB hO h0 h1 v hT hM;go_enter func217,ntmps217;go_upto_region 2 with fail
 rw [<-hW];clear hW;go_wp2;clear s1
 go_loopw [11] (fun aw wr=>∃(k:Nat) (l:List Bool),k<=Y/\aw=.int .i64 k/\TB wr (w.heap.size+1+1) l/\Hid (ae2 l (fun c=>inB fold (wss.take k) (c:Int)))/\RowKit.Below (w.heap.size+1+1) W wr) (fun s _=>Y-(intOf s).toNat)
 case atStart=>exact⟨0,_,axh _,rfl,HT.out,ap,ayZ _ _⟩
 case round=>
  clear HT ap;obtain⟨k,l,hk,rfl,U,aa,N⟩:=hrel
  by_cases ay:k<Y
  ·
   have hd:decide ((k:Int)<Y)=true:=by simp;omega
   have H:=HB.out.trans (N.mono (by omega));obtain⟨b1,o1,ax,A,cx,x,rfl,aC,af,hx,hX,aJ⟩:=HA.out.at_ ay;have aL:A<=1000000:=by have:=HM.out x (ay9 hx);rw [hX.len] at this;exact this
   have i1:(0:Int)<=(k:Int):=by omega
   have i2:(k:Int)<(Y:Int):=by omega
   have fx:wr.cell? ⟨b1,o1+k,none⟩=some (.slice ax A cx):=(H.cell (p:=⟨b1,o1+k,none⟩) aC).trans af;have HX:=ax3 hx;have ai:=ax3 hX;have a7:=ax3 U;have ac:=ax3 N;have ao:Hid (ae2 l (fun c=>inB fold (wss.take k) (c:Int) || inX fold (x.take 0) (c:Int))):=aa.out.congr (fun c hc=>by simp [inX]);have ae:=hX.len;have aD:=ax3 ae;clear af hx hX ae U N H aa;go_wp2;clear fx
   go_loopw [17] (fun av wq=>∃(j:Nat) (l:List Bool),j<=A/\av=.int .i64 j/\TB wq (w.heap.size+1+1) l/\Hid (ae2 l (fun c=>inB fold (wss.take k) (c:Int) || inX fold (x.take j) (c:Int)))/\RowKit.Below (w.heap.size+1+1) W wq) (fun s _=>A-(intOf s).toNat)
   case atStart=>exact⟨0,l,axh _,rfl,a7.out,ao,ac.out⟩
   case round=>
    clear ao;obtain⟨j,l2,hj,rfl,I,ab,C⟩:=hrel
    by_cases az:j<A
    ·
     have aA:decide ((j:Int)<A)=true:=by simp;omega
     have H:=HB.out.trans (C.mono (by omega));obtain⟨b2,o2,y,rfl,aK,aB,hy⟩:=abm (ai.out.1.below H) az;have ad:=ai.out.2 y (ay9 hy);obtain⟨n,rfl⟩:=axr ad.1;have hn:n<256:=by omega
     have HY:=ax3 hy;obtain⟨bo,q1,q2⟩:=I.cell hn;have j1:(0:Int)<=(j:Int):=by omega
     have j2:(j:Int)<(A:Int):=by omega
     have j3:(0:Int)<=(n:Int):=by omega
     have j4:(n:Int)<256:=by omega
     have HS:=ax3 (ab.out.set I.2 hn);have aj:=ax3 I;have aq:=ax3 C;have v:=aE.out;clear hy ad ab H I C;go_upto_region 9 with fail
     obtain⟨W1,D⟩:∃V,V=wr.setCell ⟨w.heap.size+1+1,n,none⟩ (.bool true):=⟨_,rfl⟩;rw [<-D];have ag:TB W1 (w.heap.size+1+1) (l2.set n true):=by rw [D];exact aj.out.set n true
     have a2:RowKit.Below (w.heap.size+1+1) W W1:=by rw [D];exact aq.out.setCell (axe _) _
     have ah:W1.heap[w.heap.size]?=some (.cells (aaF fold _ Y ca) 24 (0,0)):=(a2.block _ (by omega)).trans aH.out;have s0:W1.cell? ⟨w.heap.size,0,none⟩=some (.bool fold):=by simp [World.cell?,ah]
     have a8:=ax3 ag;have au:=ax3 a2;clear D aB q1 q2 ah ag a2 aj aq
     cases fold with
     | false=>
      have Z:Hid (ae2 (l2.set n true) (fun c=>inB false (wss.take k) (c:Int) || inX false (x.take (j+1)) (c:Int))):=HS.out.congr (fun c hc=>by
       rw [ajf HY.out,Bool.or_assoc,aga];simp)
      go_wp2
      go_roundw
      case rel=>exact⟨j+1,_,by omega,by go_num,a8.out,Z,au.out⟩
      case measure=>simp [intOf];omega
     | true=>
      have al:=ax3 (alc (n:Int) W1)
      go_wp2_with fail
      refine al.out.mono ?_;rintro e W2 ⟨rfl,a1⟩;have B:=ax3 (a8.out.below a1);have ar:=ax3 (au.out.trans (a1.mono (by have:=a8.out.lt;omega)));clear s0 a1 al
      cases X:aaL (n:Int) with
      | false=>
       have Z:Hid (ae2 (l2.set n true) (fun c=>inB true (wss.take k) (c:Int) || inX true (x.take (j+1)) (c:Int))):=HS.out.congr (fun c hc=>by
        rw [ajf HY.out,Bool.or_assoc,X,aga];simp)
       clear X;go_wp2
       go_roundw
       case rel=>exact⟨j+1,_,by omega,by go_num,B.out,Z,ar.out⟩
       case measure=>simp [intOf];omega
      | true=>
       obtain⟨p,rfl⟩:∃p,n=p+32:=⟨n-32,by unfold aaL at X;have:=of_decide_eq_true X;omega⟩;have hp:p<256:=by omega
       have hg:=aht ((p+32:Nat):Int) W2 (by omega);rw [show ((p+32:Nat):Int)-32=(p:Int) by omega] at hg;have HG:=ax3 hg;have am:=ax3 (HS.out.set B.out.2 hp);have Z:Hid (ae2 ((l2.set (p+32) true).set p true) (fun c=>inB true (wss.take k) (c:Int) || inX true (x.take (j+1)) (c:Int))):=am.out.congr (fun c hc=>by
        rw [ajf HY.out,X,show ((p+32:Nat):Int)-32=(p:Int) by omega,aga,aga];simp only [Bool.or_assoc,ayC,Bool.and_true])
       have k3:(0:Int)<=(p:Int):=by omega
       have k4:(p:Int)<256:=by omega
       clear X hg HS am
       go_wp2_with fail
       refine HG.out.mono ?_;rintro e W3 ⟨rfl,o⟩;have ak:=ax3 (B.out.below o);have aI:=ax3 (ar.out.trans (o.mono (by have:=B.out.lt;omega)));obtain⟨aN,r1,r2⟩:=ak.out.cell hp;clear o HG;go_wp2
       go_roundw
       case rel=>exact⟨j+1,_,by omega,by go_num,ak.out.set p true,Z,aI.out.setCell (axe _) _⟩
       case measure=>simp [intOf];omega
    ·
     obtain rfl:j=A:=by omega
     have aA:decide ((j:Int)<j)=false:=by simp
     have Z:Hid (ae2 l2 (fun c=>inB fold (wss.take (k+1)) (c:Int))):=ab.out.congr (fun c hc=>by
      rw [ata HX.out,show x.take j=x from axo (by rw [aD.out];exact axe _)])
     go_wp2
     go_roundw
     case rel=>exact⟨k+1,_,by omega,by go_num,I,Z,C⟩
     case measure=>simp [intOf];omega
  ·
   obtain rfl:k=Y:=by omega
   have hd:decide ((k:Int)<k)=false:=by simp
   have Z:Hid (l=avd fold wss):=by
    have h:=aa.out.all U.2;rw [axo (by rw [HL.out];exact axe _)] at h;exact h
   have a6:wr.heap[w.heap.size+1]?=some (.cells Tryz.zeroCells315 315 (0,0)):=(N.block _ (by omega)).trans aG.out;rw [aq6] at a6;have J:((l.map Value.bool).toArray).size=256:=by simp [U.2]
   have hi:(ZP.info? 315).map (·.size)=some ((l.map Value.bool).toArray).size:=by rw [J];exact aui
   have H1:=ax3 a6;have a7:=ax3 U;have HI:=ax3 hi;have ac:=ax3 N;have aF:=ax3 J;have z:((l.map Value.bool).toArray).all (·.oneCell')=true:=by simp [Value.oneCell']
   have HO:=ax3 z;clear a6 U hi N J z
   go_wp2_with (first
    | (refine wpList_load_row rfl 315 _ rfl (w.heap.size+1+1) rfl 315 _ (0,0) _ a7.out.1 underlying315 rfl HI.out ?_)
    | (refine wpList_store_row rfl 315 _ _ rfl (w.heap.size+1) _ rfl rfl 315 _ H1.out HI.out (by rw [aF.out];simp) HO.out ?_))
   refine bodyPost_ret (results_cell_row rfl _ _ (w.heap.size+1) 315 _ (0,0) _ rfl (setRow_heap _ _ _ _ _ _ H1.out) underlying315 rfl HI.out) rfl ?_;rw [Z.out];exact⟨rfl,abS (HB.out.trans (ac.out.mono (by omega))) (by omega) _⟩
section
variable {α:Type}
theorem pA (l:List α)(i:Nat)(a:α):l.toArray.setIfInBounds i a=(l.set i a).toArray:=by simp
theorem pB (a b:α)(l:List α):(a :: l).set 0 b=b :: l:=rfl
theorem pC (a b:α)(l:List α)(n:Nat):(a :: l).set (n+1) b=a :: l.set n b:=rfl
theorem pD (l:List α)(i:Nat):l.toArray[i]?=l[i]?:=by simp
theorem pE (a:α)(l:List α):(a :: l)[0]?=some a:=rfl
theorem pF (a:α)(l:List α)(n:Nat):(a :: l)[n+1]?=l[n]?:=rfl
end
section
variable {P:Program}{md:Region.Mode}{ops:Array Oper}{Q:Exit->Act->World->Prop}{S:World->Prop}
theorem tkW (i:Nat){X:Oper}{v:Value}{Y:Nat}{Z:Array Bool}{a:Act}{w:World}
  (U:∀w,S w->(execOp a.eval X).run P w=.ok (.value v) w)
  (h:wpAnyH P md ops Q S Y (Z.setIfInBounds i true) (a.put X.dst v) w)
  (I:ops[i]?=some X:=by (simp only [ax9,axQ,axR];rfl))
  (N:Region.noSelect ops=true:=by as_aux_lemma=>kernel_rfl) (H:Region.free md ops Z i=true:=by as_aux_lemma=>kernel_rfl) (J:(Region.ready md ops Z).contains i=true:=by as_aux_lemma=>kernel_rfl)
  (C:∀c a w,Q (.panic c) (a.put X.dst v) w->Q (.panic c) a w:=by exact fun _ _ _ h=>h) (V:Region.wanted X (yielded ops a.tmps)=true:=by rfl) (D:S w:=by assumption):wpAnyH P md ops Q S (Y+1) Z a w:=
 wpAnyH_take I N H J C (.inl ⟨V,U⟩) D h
theorem tkN (i:Nat){X:Oper}{Y:Nat}{Z:Array Bool}{a:Act}{w:World}
  (h:wpAnyH P md ops Q S Y (Z.setIfInBounds i true) (a.put X.dst undef) w)
  (J:ops[i]?=some X:=by (simp only [ax9,axQ,axR];rfl))
  (U:Region.noSelect ops=true:=by as_aux_lemma=>kernel_rfl) (I:Region.free md ops Z i=true:=by as_aux_lemma=>kernel_rfl) (N:(Region.ready md ops Z).contains i=true:=by as_aux_lemma=>kernel_rfl)
  (D:∀c a w,Q (.panic c) (a.put X.dst undef) w->Q (.panic c) a w:=by exact fun _ _ _ h=>h) (V:Region.wanted X (yielded ops a.tmps)=false:=by rfl) (H:S w:=by assumption):wpAnyH P md ops Q S (Y+1) Z a w:=
 wpAnyH_take J U I N D (.inr ⟨V,rfl⟩) H h
theorem tkF (c:Nat){X:Oper}{v:Value}{Y:Nat}{Z:Array Bool}{a:Act}{w:World}
  (U:∀w,S w->(execOp a.eval X).run P w=.ok (.value v) w)
  (h:wpAnyH P md ops Q S Y (Z.setIfInBounds (c-Y) true) (a.put X.dst v) w)
  (I:ops[c-Y]?=some X:=by (simp only [Nat.reduceSub,ax9,axQ,axR];rfl))
  (N:Region.noSelect ops=true:=by as_aux_lemma=>kernel_rfl) (H:Region.free md ops Z (c-Y)=true:=by as_aux_lemma=>kernel_rfl) (J:(Region.ready md ops Z).contains (c-Y)=true:=by as_aux_lemma=>kernel_rfl)
  (C:∀c a w,Q (.panic c) (a.put X.dst v) w->Q (.panic c) a w:=by exact fun _ _ _ h=>h) (V:Region.wanted X (yielded ops a.tmps)=true:=by rfl) (D:S w:=by assumption):wpAnyH P md ops Q S (Y+1) Z a w:=
 wpAnyH_take I N H J C (.inl ⟨V,U⟩) D h
theorem tkA (i:Nat){X:Oper}{v:Value}{Y:Nat}{Z:Array Bool}{a U:Act}{w:World}
  (h:wpAnyH P md ops Q S Y (Z.setIfInBounds i true) U w)
  (D:ops[i]?=some X:=by (simp only [ax9,axQ,axR];rfl))
  (J:∀w,S w->(execOp a.eval X).run P w=.ok (.value v) w:=by (intro V z;first | (go_simp;done) | (go_simp;with_reducible rfl)))
  (ha:a.put X.dst v=U:=by ((try simp only [Act.put,pA,pB,pC]);exact rfl))
  (I:Region.noSelect ops=true:=by as_aux_lemma=>kernel_rfl) (C:Region.free md ops Z i=true:=by as_aux_lemma=>kernel_rfl) (H:(Region.ready md ops Z).contains i=true:=by as_aux_lemma=>kernel_rfl)
  (A:∀c a w,Q (.panic c) (a.put X.dst v) w->Q (.panic c) a w:=by exact fun _ _ _ h=>h) (N:Region.wanted X (yielded ops a.tmps)=true:=by rfl) (B:S w:=by assumption):wpAnyH P md ops Q S (Y+1) Z a w:=
 wpAnyH_take D I C H A (.inl ⟨N,J⟩) B (ha ▸ h)
theorem tkB (i:Nat){I:World->Prop}(F:∀V,S V->I V){X:Oper}{v:Value}{Y:Nat}{Z:Array Bool}{a J:Act}{w:World}
  (h:wpAnyH P md ops Q S Y (Z.setIfInBounds i true) J w)
  (B:ops[i]?=some X:=by (simp only [ax9,axQ,axR];rfl))
  (H:∀w,S w->I w->(execOp a.eval X).run P w=.ok (.value v) w:=by (intro V x N;(repeat (obtain⟨_,N⟩:=N));first | (go_simp;done) | (go_simp;with_reducible rfl)))
  (ha:a.put X.dst v=J:=by ((try simp only [Act.put,pA,pB,pC]);exact rfl))
  (D:Region.noSelect ops=true:=by as_aux_lemma=>kernel_rfl) (A:Region.free md ops Z i=true:=by as_aux_lemma=>kernel_rfl) (C:(Region.ready md ops Z).contains i=true:=by as_aux_lemma=>kernel_rfl)
  (y:∀c a w,Q (.panic c) (a.put X.dst v) w->Q (.panic c) a w:=by exact fun _ _ _ h=>h) (U:Region.wanted X (yielded ops a.tmps)=true:=by rfl) (z:S w:=by assumption):wpAnyH P md ops Q S (Y+1) Z a w:=
 wpAnyH_take B D A C y (.inl ⟨U,fun w U=>H w U (F w U)⟩) z (ha ▸ h)
theorem rdy (i:Nat){X:Oper}{Y:Nat}{Z:Array Bool}{a:Act}{w:World}
  (h:∀V:Act->World->Prop,Shut (∀a w,S w->(S w->wpAnyH P md ops Q S Y (Z.setIfInBounds i true) a w)->V a w)->if Region.wanted X (yielded ops a.tmps)=true then Oper.wp P X a w V Q else V (a.put X.dst undef) w)
  (N:ops[i]?=some X:=by (simp only [ax9,axQ,axR];rfl)) (U:Region.ready md ops Z=[i]:=by as_aux_lemma=>kernel_rfl):wpAnyH P md ops Q S (Y+1) Z a w:=
 wpAnyH_ready (rs:=[i]) U (by simp) (axv N h axw)
theorem awN (i j:Nat){U V:Oper}{Y:Nat}{Z:Array Bool}{a:Act}{w:World}
  (h:∀X:Act->World->Prop,Shut (∀a w,S w->(S w->wpAnyH P md ops Q S Y (Z.setIfInBounds i true) a w)->X a w)->if Region.wanted U (yielded ops a.tmps)=true then Oper.wp P U a w X Q else X (a.put U.dst undef) w)
  (g:∀X:Act->World->Prop,Shut (∀a w,S w->(S w->wpAnyH P md ops Q S Y (Z.setIfInBounds j true) a w)->X a w)->if Region.wanted V (yielded ops a.tmps)=true then Oper.wp P V a w X Q else X (a.put V.dst undef) w)
  (I:ops[i]?=some U:=by (simp only [ax9,axQ,axR];rfl)) (J:ops[j]?=some V:=by (simp only [ax9,axQ,axR];rfl)) (N:Region.ready md ops Z=[i,j]:=by as_aux_lemma=>kernel_rfl):wpAnyH P md ops Q S (Y+1) Z a w:=
 wpAnyH_ready (rs:=[i,j]) N (by simp) (axv I h (axv J g axw))
end
end Go.Proofs.YtaamacoicojhnaaGreat
