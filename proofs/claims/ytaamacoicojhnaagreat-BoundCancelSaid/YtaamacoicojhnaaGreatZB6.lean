/- Proofs over the given program, part 6. -/
import Derived.Test.YtaamacoicojhnaaGreatZB5
set_option linter.unusedVariables false
set_option linter.unusedSimpArgs false
set_option maxRecDepth 100000
set_option maxHeartbeats 16000000
open Go.Proofs.Tryz
open Go.Proofs.Tryz renaming prog→ZP
namespace Go.Proofs.YtaamacoicojhnaaGreat
open Go.RowKit Go.Sort
def CB (W:World)(B:Nat)(l:List Int)(m:Int):Prop:=W.heap[B]?=some (.cells ((l++[m]).map (Value.int .i64)).toArray 284 (0,0))/\l.length=256
theorem CB.lt {W:World}{B:Nat}{l:List Int}{m:Int}(h:CB W B l m):B<W.heap.size:=(awU.1 h.1).1
theorem CB.below {W V:World}{B:Nat}{l:List Int}{m:Int}(h:CB W B l m)(Z:Below W.heap.size W V):CB V B l m:=⟨(Z.block B h.lt).trans h.1,h.2⟩
theorem CB.cell {W:World}{B:Nat}{l:List Int}{m:Int}(h:CB W B l m){c:Nat}(Y:c<256){v:Int}(Z:l[c]?=some v):W.cell? ⟨B,c,none⟩=some (.int .i64 v):=by
 obtain⟨h1,h2⟩:=h;have:(l++[m])[c]?=some v:=by rw [ax8 (by omega)];exact Z
 simp only [World.cell?,h1];simp only [Array.getElem?_map,ax9,axa,this,awW];simp
theorem CB.many {W:World}{B:Nat}{l:List Int}{m:Int}(h:CB W B l m):W.cell? ⟨B,256,none⟩=some (.int .i64 m):=by
 obtain⟨h1,h2⟩:=h;have:(l++[m])[256]?=some m:=by rw [<-h2];simp
 simp only [World.cell?,h1];simp only [Array.getElem?_map,ax9,axa,this,awW];simp
theorem CB.frozen {W:World}{B:Nat}{l:List Int}{m:Int}(h:CB W B l m)(c:Nat):W.frozen? ⟨B,c,none⟩=false:=by
 simp [World.frozen?,h.1]
theorem CB.set {W:World}{B:Nat}{l:List Int}{m:Int}(h:CB W B l m){c:Nat}(Z:c<256)(v:Int):CB (W.setCell ⟨B,c,none⟩ (.int .i64 v)) B (l.set c v) m:=by
 refine⟨?_,by rw [axb];exact h.2⟩;rw [aa4 h.1];have e:(l++[m]).set c v=l.set c v++[m]:=List.set_append_left _ _ (by rw [h.2];exact Z);rw [<-e,axc];simp
theorem CB.setm {W:World}{B:Nat}{l:List Int}{m:Int}(h:CB W B l m)(v:Int):CB (W.setCell ⟨B,256,none⟩ (.int .i64 v)) B l v:=by
 refine⟨?_,h.2⟩;rw [aa4 h.1];have e:(l++[m]).set 256 v=l++[v]:=by rw [<-h.2];simp
 rw [<-e,axc];simp
theorem ali (B c:Nat)(v:Int)(u:Value)(w:World)(U:c<256)(X:w.cell? ⟨B,c,none⟩=some u)(V:w.frozen? ⟨B,c,none⟩=false) :
  Calls ZP 219 #[.pointer (some ⟨B,0,none⟩),.int .u8 (c:Int),.int .i64 v] w fun e w'=>e=.returned (.tuple #[])/\w'=w.setCell ⟨B,c,none⟩ (.int .i64 v):=by
 have Y:(0:Int)<=(c:Int):=by omega
 have Z:(c:Int)<256:=by omega
 go_enter func219,ntmps219;go_wp2;refine bodyPost_end (results_none rfl _ _ _) rfl ?_;exact⟨rfl,rfl⟩
theorem akA (B c m:Nat)(l:List Int)(w:World)(I:c<256)(h:CB w B l m)(hm:m<=1000) :
    Calls ZP 221 #[.pointer (some ⟨B,0,none⟩),.int .u8 (c:Int)] w fun e w'=>e=.returned (.tuple #[])/\CB w' B (l.set c m) ((m+1:Nat):Int)/\RowKit.Below B w w':=by
  have H:=ax3 h;have i1:(0:Int)<=(c:Int):=by omega
  have i2:(c:Int)<256:=by omega
  have o:c<l.length:=by rw [h.2];exact I
  obtain⟨u,s⟩:∃u,l[c]?=some u:=⟨l[c],by simp⟩;have D:=ax3 (h.below (aa2 w 1));have J:Hid (RowKit.Below B w (w.drewN 1)):=(aa2 w 1).mono (axd h.lt);have x:=ax3 (ali B c m _ w.drew I (D.out.cell I s) (D.out.frozen c));have U:=D.out.many;clear h;go_enter func221,ntmps221;go_upto_region 0 with fail
  refine wp_region_noPanic ?_;refine wp_region_held_drew (S:=fun V=>RowKit.Below B w V/\V.cell? ⟨B,256,none⟩=some (.int .i64 (m:Int))) (by kernel_rfl) ⟨J.out,U⟩ (fun hHeld=>?_);refine tkA 0 ?_;refine tkA 1 ?_;refine tkA 2 ?_;refine tkA 3 ?_;refine tkA 4 ?_;refine tkA 5 ?_;refine tkA 6 ?_;refine tkW 7 (v:=?_) ?_ ?_;rotate_left
  ·
    intro V j;have r0:=j.2
    first | (go_simp;done) | (go_simp;with_reducible rfl)
  try simp only [Act.put,pA,pB,pC]
  refine rdy 8 (fun K y=>?_);go_simp
  go_at_call 219;refine x.out.mono ?_;rintro e z ⟨rfl,Y⟩
  have Z:CB z B (l.set c m) m:=by rw [Y];exact D.out.set I m
  have X:RowKit.Below B w z:=by rw [Y];exact J.out.setCell (axe _) _
  refine y.out _ _ ⟨X,Z.many⟩ (fun N=>?_);clear y K hHeld N Y
  try simp only [Act.put,pA,pB,pC]
  refine wpAnyH_done (by kernel_rfl) ?_ _;refine ax4 ?_;have q1:=Z.many;have q2:=Z.frozen 256;have C:=ax3 Z;have A:=ax3 X;clear Z X U;go_wp2;refine bodyPost_end (results_none rfl _ _ _) rfl ?_;refine⟨rfl,?_,A.out.setCell (axe _) _⟩;have h:=C.out.setm (((m+1:Nat)):Int)
  first | exact h | (have e:wrap64 ((m:Int)+1)=((m+1:Nat):Int):=by go_num
                     rw [<-e] at h;exact h)
def agG (p:Int->Bool)(fold:Bool)(i:Nat):List Int:=(abg p fold i).1++List.replicate (256-i) 0
theorem as2 (p:Int->Bool)(fold:Bool){i:Nat}(h:i<=256):(agG p fold i).length=256:=by
 unfold agG;rw [List.length_append,acr,axC];omega
theorem auU (p:Int->Bool)(fold:Bool){i j:Nat}(h:j<i):(agG p fold i)[j]?=(abg p fold i).1[j]?:=by
 unfold agG;rw [ax8 (by rw [acr];exact h)]
theorem ann (p:Int->Bool)(fold:Bool){i:Nat}(h:i<256)(v:Int):(agG p fold i).set i v=((abg p fold i).1++[v])++List.replicate (256-(i+1)) 0:=by
 unfold agG;have Z:=acr p fold i;rw [ayg _ _ (by omega),Z,ayh,show 256-i=(256-(i+1))+1 by omega,ayf,List.set_cons_zero,ayi]
 rfl
theorem auT {p:Int->Bool}{fold:Bool}{i:Nat}(h:i<256)(Z:p i=false):agG p fold (i+1)=agG p fold i/\(abg p fold (i+1)).2=(abg p fold i).2:=by
 unfold agG;rw [acL,if_pos Z];refine⟨?_,rfl⟩;rw [show 256-i=(256-(i+1))+1 by omega,ayf,ayi]
 rfl
theorem aoT {p:Int->Bool}{fold:Bool}{i:Nat}(h:i<256)(Y:p i=true)(Z:(fold&&aaL i)=true):agG p fold (i+1)=(agG p fold i).set i (((abg p fold i).1[i-32]?).getD 0)/\(abg p fold (i+1)).2=(abg p fold i).2:=by
 rw [ann p fold h];unfold agG;rw [acL,if_neg (by rw [Y];decide),if_pos Z];exact⟨rfl,rfl⟩
theorem an6 {p:Int->Bool}{fold:Bool}{i:Nat}(h:i<256)(Y:p i=true)(Z:(fold&&aaL i)=false):agG p fold (i+1)=(agG p fold i).set i ((abg p fold i).2:Int)/\(abg p fold (i+1)).2=(abg p fold i).2+1:=by
 rw [ann p fold h];unfold agG;rw [acL,if_neg (by rw [Y];decide),if_neg (by rw [Z];decide)];exact⟨rfl,rfl⟩
theorem auk (fold:Bool)(ws:List (List Int)){i:Nat}(h:i<256):((avd fold ws).map Value.bool)[i]?=some (.bool (inB fold ws (i:Int))):=by
 unfold avd;rw [axa,axa,axS h]
 rfl
theorem avB:Tryz.zeroCells284.setIfInBounds 256 (Value.int IntKind.i64 1)=((List.replicate 256 (0:Int)++[1]).map (Value.int .i64)).toArray:=by kernel_rfl
theorem amg:(ZP.info? 4).map (fun i=>(i.zero,i.size,i.bytes))=some (some (.bool false),1,1):=by kernel_rfl
theorem aqm {L:Array Value}{i:Nat}{b:Bool}(V:i<256)(h:L[i]?=some (.bool b))(w:World):Sem.run ZP (Instr.index 315 (.agg L) (.int .i64 (i:Int))) w=.ok (.bool b) w:=by
 obtain⟨X,Z,_,Y,_⟩:=info_parts amg;have e:(0:Int)<=(i:Int)/\(i:Int)<256:=by omega
 unfold Instr.index;simp only [asIntOf,awX,awY,Result.andThen_ok,run_underlying underlying315];simp [e,sizeOf,typeInfo,Z,Y,part,isAgg,run_underlying underlying4,h]
theorem ame (fold:Bool)(a:Option Addr)(j ca:Nat)(wss:List (List Int))(w:World)(hA:Wds w a j wss)(av:j<=1000000)(hM:∀x∈wss,x.length<=1000000)(hT:(abo fold wss).length<=1000000)(hr:aan fold wss=true) :
  Calls ZP 177 #[.agg (aaF fold a j ca)] w fun e w'=>∃B,e=.returned (.tuple #[.pointer (some ⟨B,0,none⟩),.bool true])/\CB w' B (ade fold wss) (aat fold wss:Int)/\w.heap.size<=B/\Below w.heap.size w w':=by
 obtain⟨W,hW⟩:∃W,W=w.alloc (.cells (aaF fold a j ca) 24):=⟨_,rfl⟩;have hB:Below w.heap.size w W:=by rw [hW];exact aa1 _ _
 have hO:Bx w.heap.size [.cells (aaF fold a j ca) 24] W:=by rw [hW];exact (Bx.nil _ w).snoc _ rfl
 have s0:W.cell? ⟨w.heap.size,0,none⟩=some (.bool fold):=hO.cell (i:=0) rfl rfl;have s1:W.cell? ⟨w.heap.size,1,none⟩=some (.slice a j ca):=hO.cell (i:=0) rfl rfl;have HC:=ax3 (aft fold a j ca wss W (hA.below hB) av hM hT);have HA:=ax3 (hA.below hB);have HO:=ax3 hO;have HM:=ax3 hM;have ax:W.heap.size=w.heap.size+1:=by rw [hW];simp
 have aB:=ax3 ax;rw [hr] at HC;clear hr hA hO hM ax;go_enter func177,ntmps177;go_upto_region 1 with fail
 rw [<-hW];clear hW
 go_wp2_with fail
 refine HC.out.mono ?_;rintro e w1 ⟨rfl,a6⟩;clear s0 s1 HC;go_upto_region 4 with fail
 obtain⟨W2,a7⟩:∃V,V=w1.alloc (.cells (Tryz.zeroCells284.setIfInBounds 256 (Value.int IntKind.i64 1)) 284):=⟨_,rfl⟩;have ae:RowKit.Below w1.heap.size w1 W2:=by rw [a7];exact aa1 _ _
 have H:CB W2 w1.heap.size (List.replicate 256 0) 1:=⟨by rw [a7,avB];exact axg _ _,by simp⟩;rw [<-a7];clear a7;obtain⟨B,al⟩:∃B,w1.heap.size=B:=⟨_,rfl⟩;have aP:W.heap.size<=B:=by rw [<-al];exact a6.size
 have a2:=a6.trans (ae.mono a6.size);rw [al] at H ⊢;clear al ae a6;have ar:=ax3 a2;have aa:=ax3 H;have ak:=HO.out.below a2;have s0:W2.cell? ⟨w.heap.size,0,none⟩=some (.bool fold):=ak.cell (i:=0) rfl rfl;have s1:W2.cell? ⟨w.heap.size,1,none⟩=some (.slice a j ca):=ak.cell (i:=0) rfl rfl;have HH:=ax3 (av1 fold a j ca wss W2 (HA.out.below a2) av HM.out);clear ak H a2
 go_wp2_with fail
 refine HH.out.mono ?_;rintro e W3 ⟨rfl,aj⟩;have ac:=ax3 (ar.out.trans (aj.mono ar.out.size));have aD:=ax3 (aa.out.below aj);obtain⟨L,hL⟩:∃L,((avd fold wss).map Value.bool).toArray=L:=⟨_,rfl⟩;have ix:Hid (∀(i:Nat),i<256->L[i]?=some (.bool (inB fold wss (i:Int)))):=fun i hi=>by
  rw [<-hL]
  simpa using auk fold wss hi
 have aQ:L.size=256:=by rw [<-hL];simp [avd]
 rw [hL];clear s0 s1 HH aj hL aa ar;have aN:B<W3.heap.size:=aD.out.lt;go_wp2
 go_loopw [15] (fun aF wr=>∃i:Nat,i<=256/\aF=.int .i64 i/\CB wr B (agG (inB fold wss) fold i) ((abg (inB fold wss) fold i).2:Int)/\RowKit.Below B W3 wr) (fun s _=>256-(intOf s).toNat)
 case atStart=>exact⟨0,axh _,rfl,aD.out,ayZ _ _⟩
 case round=>
  obtain⟨i,hi,rfl,y,o⟩:=hrel
  by_cases Z:i<256
  ·
   have hd:decide ((i:Int)<256)=true:=by simp;omega
   have i1:(0:Int)<=(i:Int):=by omega
   have i2:(i:Int)<256:=by omega
   have ag:=ix.out i Z;obtain⟨b,hb⟩:∃b,inB fold wss (i:Int)=b:=⟨_,rfl⟩;rw [hb] at ag;have ad:=fun (V:World)=>aqm Z ag V;have aO:IntKind.u8.wrap (i:Int)=(i:Int):=by simp [IntKind.wrap,IntKind.bits,IntKind.signed];omega
   have a8:=ax3 y;have am:=ax3 o;have ay:=HO.out.below (ac.out.trans (o.mono (by have:=ac.out.size;have:=aB.out;omega)));have s0:wr.cell? ⟨w.heap.size,0,none⟩=some (.bool fold):=ay.cell (i:=0) rfl rfl;have ab:=ax3 hb;clear y o ay ag hb
   cases b with
   | false=>
    obtain⟨N,C⟩:=auT (p:=inB fold wss) (fold:=fold) Z ab.out;have H:CB wr B (agG (inB fold wss) fold (i+1)) ((abg (inB fold wss) fold (i+1)).2:Int):=by rw [N,C];exact a8.out
    have aa:=ax3 H;clear N C H;go_wp2
    go_roundw
    case rel=>exact⟨i+1,by omega,by go_num,aa.out,am.out⟩
    case measure=>simp [intOf];omega
   | true=>
    have af:=abj (inB fold wss) fold i
    cases fold with
    | false=>
     obtain⟨N,C⟩:=an6 (p:=inB false wss) (fold:=false) Z ab.out rfl;have ho:=akA B i (abg (inB false wss) false i).2 _ wr Z a8.out (by omega);rw [<-N,<-C] at ho;have ap:=ax3 ho;clear N C ho af
     go_wp2_with fail
     refine ap.out.mono ?_;rintro e w5 ⟨rfl,z,I⟩;have aq:=ax3 z;clear z ad s0;go_wp2
     go_roundw
     case rel=>exact⟨i+1,by omega,by go_num,aq.out,am.out.trans I⟩
     case measure=>simp [intOf];omega
    | true=>
     have aC:=ax3 (alc (i:Int) wr)
     go_wp2_with fail
     refine aC.out.mono ?_;rintro e Y ⟨rfl,ai⟩;have aA:=a8.out.below ai;have D:=ax3 aA;have aE:=ax3 (am.out.trans (ai.mono (by have:=a8.out.lt;omega)));clear aA ai s0 ad aC
     cases J:aaL (i:Int) with
     | false=>
      obtain⟨N,C⟩:=an6 (p:=inB true wss) (fold:=true) Z ab.out (by rw [J];rfl);have ho:=akA B i (abg (inB true wss) true i).2 _ Y Z D.out (by omega);rw [<-N,<-C] at ho;have ap:=ax3 ho;clear N C ho af J
      go_wp2_with fail
      refine ap.out.mono ?_;rintro e w5 ⟨rfl,z,I⟩;have aq:=ax3 z;clear z;go_wp2
      go_roundw
      case rel=>exact⟨i+1,by omega,by go_num,aq.out,aE.out.trans I⟩
      case measure=>simp [intOf];omega
     | true=>
      obtain⟨N,C⟩:=aoT (p:=inB true wss) (fold:=true) Z ab.out (by rw [J];rfl);obtain⟨p,rfl⟩:∃p,i=p+32:=⟨i-32,by unfold aaL at J;have:=of_decide_eq_true J;omega⟩;rw [ayR] at N;obtain⟨v,hv⟩:∃v,(abg (inB true wss) true (p+32)).1[p]?=some v:=⟨(abg (inB true wss) true (p+32)).1[p]'(by rw [acr];omega),by simp⟩;rw [hv,ayr] at N;have au:(agG (inB true wss) true (p+32))[p]?=some v:=by rw [auU _ _ (by omega)];exact hv
      obtain⟨u,hu⟩:∃u,(agG (inB true wss) true (p+32))[p+32]?=some u:=⟨(agG (inB true wss) true (p+32))[p+32]'(by rw [as2 _ _ (by omega)];omega),by simp⟩;have aG:p<256:=by omega
      have kg:Hid (∀V,RowKit.Below Y.heap.size Y V->Calls ZP 220 #[.int .u8 ((p+32:Nat):Int)] V fun e w'=>e=.returned (.int .u8 (p:Int))/\RowKit.Below V.heap.size V w'):=fun V hV=>by
       have h:=aht ((p+32:Nat):Int) V (by omega)
       rwa [show ((p+32:Nat):Int)-32=(p:Int) by omega] at h
      have ks:Hid (∀V,RowKit.Below Y.heap.size Y V->Calls ZP 219 #[.pointer (some ⟨B,0,none⟩),.int .u8 ((p+32:Nat):Int),.int .i64 v] V fun e w'=>e=.returned (.tuple #[])/\w'=V.setCell ⟨B,p+32,none⟩ (.int .i64 v)):=fun V hV=>
       ali B (p+32) v _ V Z ((D.out.below hV).cell Z hu) ((D.out.below hV).frozen _)
      have ah:Hid (∀V,RowKit.Below Y.heap.size Y V->V.cell? ⟨B,p,none⟩=some (.int .i64 v)):=fun V hV=>(D.out.below hV).cell aG au;have aI:=ax3 N;have aH:=ax3 C;have j1:(0:Int)<=(p:Int):=by omega
      have j2:(p:Int)<256:=by omega
      have A:=D.out.lt;clear N C hv au hu af J;go_upto_region 11 with fail
      refine wp_region_noPanic ?_;refine wp_region_held_drew (S:=fun V=>RowKit.Below B Y V/\V.cell? ⟨B,p,none⟩=some (.int .i64 v)) (by kernel_rfl) ⟨(aa2 Y 1).mono (axd A),ah.out _ (aa2 Y 1)⟩ (fun hHeld=>?_);refine tkA 0 ?_;refine tkA 1 ?_;refine tkA 2 ?_;refine tkA 3 ?_;refine tkA 4 ?_;refine tkA 5 ?_;refine tkA 7 ?_;refine tkA 8 ?_;refine tkA 9 ?_;refine rdy 6 (fun K hK=>?_);go_simp
      go_at_call 220;refine (kg.out _ (aa2 Y 1)).mono ?_;rintro e w5 ⟨rfl,I⟩
      have X:RowKit.Below Y.heap.size Y w5:=(aa2 Y 1).trans I;refine hK.out _ _ ⟨X.mono (axd A),ah.out _ X⟩ (fun U=>?_);clear hK K hHeld;have hHeld:=U;clear U I
      try simp only [Act.put,pA,pB,pC]
      refine tkA 10 ?_;refine tkW 11 (v:=?_) ?_ ?_;rotate_left
      ·
       intro V hV;have r0:=hV.2
       first | (go_simp;done) | (go_simp;with_reducible rfl)
      try simp only [Act.put,pA,pB,pC]
      refine rdy 12 (fun K hK=>?_);go_simp
      go_at_call 219;refine (ks.out _ X).mono ?_;rintro e w6 ⟨rfl,a1⟩
      have az:CB w6 B (agG (inB true wss) true (p+32+1)) ((abg (inB true wss) true (p+32+1)).2:Int):=by
       rw [a1,aI.out,aH.out];exact (D.out.below X).set Z v
      have ao:RowKit.Below B Y w6:=by rw [a1];exact (X.mono (axd A)).setCell (axe _) _
      have aw:w6.cell? ⟨B,p,none⟩=some (.int .i64 v):=by
       rw [a1,World.cell?_setCell_other _ _ _ _ (fun e=>by injection e with e1 e2;omega)];exact ah.out _ X
      refine hK.out _ _ ⟨ao,aw⟩ (fun U=>?_);clear hK K hHeld U a1 aw
      try simp only [Act.put,pA,pB,pC]
      refine wpAnyH_done (by kernel_rfl) ?_ _;refine ax4 ?_;have aK:=ax3 az;have aM:=ax3 (aE.out.trans ao);clear az ao X;go_wp2
      go_roundw
      case rel=>exact⟨p+32+1,by omega,by go_num,aK.out,aM.out⟩
      case measure=>simp [intOf];omega
  ·
   obtain rfl:i=256:=by omega
   have hd:decide (((256:Nat):Int)<256)=false:=by decide
   have hz:agG (inB fold wss) fold 256=ade fold wss:=by
    unfold agG ade;simp
   rw [hz] at y;have aJ:=ax3 y;have aL:=ax3 o;clear hz y o;go_wp2;go_ret2;exact⟨B,rfl,aJ.out,by have:=hB.size;omega,hB.trans ((ac.out.trans (aL.out.mono (by have:=ac.out.size;have:=aB.out;omega))).mono hB.size)⟩
theorem aki {fn:Func}{p u v:Tmp}{tmps:Array Value}{W:World}{B:Nat}{cs:Array Value}(h:fn.results=#[.cell p 144,.tmp u,.tmp v])(X:tmps.getD p undef=.pointer (some ⟨B,0,none⟩))(V:W.heap[B]?=some (.cells cs 144 (0,0)))(Y:cs.size=256) :
  (results fn tmps).run ZP W=.ok (.tuple #[.agg cs,tmps.getD u undef,tmps.getD v undef]) W:=by
 have Z:tmps[p]?.getD undef=.pointer (some ⟨B,0,none⟩):=by simpa using X
 simp [results,h,Z,asAddr,run_loadVar_row W B 144 144 cs (0,0) _ V underlying144 rfl (by rw [Y];exact apJ)]
theorem acB (l:List Int):((l.map (Value.int .i64)).toArray).size=l.length:=by simp
theorem aj2 (l:List Int):((l.map (Value.int .i64)).toArray).all (·.oneCell')=true:=by simp [Value.oneCell']
abbrev awH (l:List Int):Value:=.agg (l.map (Value.int .i64)).toArray
theorem aic {c:Bool}{p q:Prop}(Z:c=true)(h:p):if c=true then p else q:=by rw [if_pos Z];exact h
theorem asX (fold:Bool)(a:Option Addr)(J ca:Nat)(wss:List (List Int))(w:World)(hA:Wds w a J wss)(a1:J<=1000000)(hM:∀x∈wss,x.length<=1000000)(hT:(abo fold wss).length<=1000000)(hr:aan fold wss=true) :
  Calls ZP 128 #[.agg (aaF fold a J ca)] w fun e w'=>e=.returned (.tuple #[awH (ade fold wss),.int .i64 (aat fold wss),.int .i64 0])/\Below w.heap.size w w':=by
 obtain⟨W,hW⟩:∃W,W=(w.alloc (.cells (aaF fold a J ca) 24)).alloc (.cells Tryz.zeroCells144 144):=⟨_,rfl⟩;have hB:Below w.heap.size w W:=by rw [hW];exact ((axf _ _).alloc (axe _) _).alloc (by simp) _
 have hO:Bx w.heap.size [.cells (aaF fold a J ca) 24,.cells Tryz.zeroCells144 144] W:=by rw [hW];exact ((Bx.nil _ w).snoc _ rfl).snoc _ (by simp)
 have s0:W.cell? ⟨w.heap.size,0,none⟩=some (.bool fold):=hO.cell (i:=0) rfl rfl;have s1:W.cell? ⟨w.heap.size,1,none⟩=some (.slice a J ca):=hO.cell (i:=0) rfl rfl;have HC:=ax3 (ame fold a J ca wss W (hA.below hB) a1 hM hT hr);have HO:=ax3 hO;clear hr hO;go_enter func128,ntmps128;go_upto_region 1 with fail
 rw [<-hW];clear hW
 go_wp2_with fail
 refine HC.out.mono ?_;rintro e Z ⟨B,rfl,s,a8,H⟩;have h1:Z.heap[w.heap.size+1]?=some (.cells Tryz.zeroCells144 144 (0,0)):=(HO.out.below H) 1 _ rfl;rw [atE] at h1;have H1:=ax3 h1;have X:=ax3 s;obtain⟨L,hL⟩:∃L,ade fold wss=L:=⟨_,rfl⟩;obtain⟨M,C⟩:∃M:Int,(aat fold wss:Int)=M:=⟨_,rfl⟩;rw [hL,C] at X;have a6:=ax3 hL;have a2:=ax3 C;have Y:L.length=256:=X.out.2;have hi:(ZP.info? 144).map (·.size)=some ((L.map (Value.int .i64))).length:=by rw [ayq,Y];exact apJ
 have HI:=ax3 hi;have y:Hid (∀V,CB V B L M->V.rangeAt B 0 (L.map (Value.int .i64))/\V.cell? ⟨B,256,none⟩=some (.int .i64 M)):=fun V h=>by
  refine⟨fun j v hv=>?_,h.many⟩;rw [axa,ayw] at hv;obtain⟨x,hx,rfl⟩:=hv;rw [axz];exact h.cell (by have:=(awR.1 hx).1;omega) hx
 have a7:w.heap.size+1<W.heap.size:=(awU.1 (HO.out 1 _ rfl)).1;have o:B≠w.heap.size+1:=by omega
 have U:w.heap.size+1<Z.heap.size:=by have:=H.size;omega
 clear h1 s hi s0 s1 HC hL C;go_upto_region 4 with fail
 refine wp_region_noPanic ?_;refine wp_region_held_drew (S:=fun V=>CB V B L M/\RowKit.Below (w.heap.size+1) Z V) (by kernel_rfl) ⟨X.out.below (aa2 Z 1),(aa2 Z 1).mono (axd U)⟩ (fun hHeld=>?_);refine tkA 0 ?_;refine tkA 1 ?_;refine tkA 2 ?_;refine tkA 3 ?_;refine' wpAnyH_take (i:=4) (v:=_) (by simp only [pD,pE,pF];rfl) (by kernel_rfl) (by kernel_rfl) (by kernel_rfl) (fun _ _ _ h=>h) (yieldsIf_load_mid (by rfl) _ _ rfl B 0 rfl (L.map (Value.int .i64)) _ (fun V hV=>(y.out V hV.1).1) underlying144 rfl HI.out) (by assumption) ?_
 try simp only [Act.put,pA,pB,pC]
 refine tkA 5 ?_;refine tkA 6 ?_;refine tkA 7 ?_;refine tkW 8 (v:=?_) ?_ ?_;rotate_left
 ·
  intro V hV;have r0:=(y.out V hV.1).2
  first | (go_simp;done) | (go_simp;with_reducible rfl)
 try simp only [Act.put,pA,pB,pC]
 refine rdy 9 (fun K hK=>?_);have I:Z.drew.heap[w.heap.size+1]?=some (.cells ((List.replicate 256 (0:Int)).map (Value.int .i64)).toArray 144 (0,0)):=H1.out;have z:(ZP.info? 144).map (·.size)=some (((L.map (Value.int .i64))).toArray).size:=by rw [axT];exact HI.out
 refine aic (by kernel_rfl) ?_;refine wp_store_row 144 _ _ rfl (w.heap.size+1) _ rfl rfl 144 _ I z (by rw [acB,acB];rw [Y];rfl) (aj2 L) ?_;have h2:=setRow_heap Z.drew (w.heap.size+1) _ ((L.map (Value.int .i64)).toArray) _ _ I;have H2:=ax3 h2;have D:CB (Z.drew.setRow (w.heap.size+1) ((L.map (Value.int .i64)).toArray)) B L M/\RowKit.Below (w.heap.size+1) Z (Z.drew.setRow (w.heap.size+1) ((L.map (Value.int .i64)).toArray)):=
  ⟨⟨(setRow_other _ _ _ _ o).trans (X.out.below (aa2 Z 1)).1,Y⟩,abS ((aa2 Z 1).mono (axd U)) (axe _) _⟩
 clear h2 I z;obtain⟨w2,A⟩:∃w2,w2=Z.drew.setRow (w.heap.size+1) ((L.map (Value.int .i64)).toArray):=⟨_,rfl⟩;rw [<-A] at H2 D ⊢;clear A;refine hK.out _ _ D (fun N=>?_);clear hK K hHeld;have hHeld:=N;clear N
 try simp only [Act.put,pA,pB,pC]
 refine tkA 10 ?_;refine tkA 11 ?_;refine wpAnyH_done (by kernel_rfl) ?_ _;refine ax4 ?_
 go_wp2_with fail
 refine bodyPost_ret (aki rfl rfl H2.out (by rw [acB];exact Y)) rfl ?_;rw [<-a6.out,<-a2.out];exact⟨rfl,hB.trans ((H.mono hB.size).trans (D.2.mono (by omega)))⟩
section
variable {ws:List (List Int)}
theorem asp {i:Nat}{x:List Int}(Z:(aa0 ws)[i]?=some x):(aa5 ws).wrd[i]?=some (aaR ws x):=by simp [aa5,Z]
theorem ak0:(aa5 ws).up.length=(aa0 ws).length/\(aa5 ws).dep.length=(aa0 ws).length/\(aa5 ws).wrd.length=(aa0 ws).length/\(aa5 ws).byt.length=(aa0 ws).length:=by simp [aa5]
end
def lsf (N:List (List Int)):List Int->List Int
 | []=>[]
 | a :: t=>if (a :: t)∈N then a :: t else lsf N t
theorem ab1 (N:List (List Int)):∀b,lsf N b <:+b
 | []=>List.suffix_refl _
 | a :: t=>by
  unfold lsf
  split
  · exact List.suffix_refl _
  · exact (ab1 N t).trans (List.suffix_cons a t)
theorem aeD {N:List (List Int)}(h0:[]∈N):∀b,lsf N b∈N
 | []=>h0
 | a :: t=>by
  unfold lsf
  split
  · assumption
  · exact aeD h0 t
theorem aj9 {N:List (List Int)}{y:List Int}(Z:y∈N):∀{b},y <:+b->y.length<=(lsf N b).length
 | [],h=>by rw [List.eq_nil_of_suffix_nil h];exact axh _
 | a :: t,h=>by
  unfold lsf
  split
  · exact h.length_le
  ·
   rename_i Y
   rcases List.suffix_cons_iff.1 h with e | h
   · rw [e] at Z;exact absurd Z Y
   · exact aj9 Z h
theorem acM {N:List (List Int)}{b:List Int}(h:b∈N):lsf N b=b:=by
 cases b with
 | nil=>rfl
 | cons a t=>unfold lsf;rw [if_pos h]
theorem ard {x y b:List Int}(Y:x <:+b)(Z:y <:+b)(h:x.length=y.length):x=y:=by
 obtain⟨s,rfl⟩:=Y;obtain⟨t,X⟩:=Z;exact (List.append_inj_right' X.symm (by omega))
theorem aiB {N:List (List Int)}{b y:List Int}(Y:y∈N)(Z:y <:+b)(h0:[]∈N)(X:∀z,z <:+b->z∈N->z.length<=y.length):lsf N b=y:=by
 have h1:=aj9 Y Z;have h2:=X _ (ab1 N b) (aeD h0 b);exact ard (ab1 N b) Z (by omega)
def Pre (N:List (List Int)):Prop:=[]∈N/\∀x c,x++[c]∈N->x∈N
theorem am7 {y b:List Int}{c:Int}(h:y <:+b++[c]):y=[]∨∃z,y=z++[c]/\z <:+b:=by
 by_cases e:y=[]
 · exact .inl e
 ·
  right
  obtain⟨s,Z⟩:=h;have h1:=ayO e;rw [<-h1,<-ayi] at Z;obtain⟨h2,h3⟩:=List.append_inj' Z rfl;refine⟨y.dropLast,?_,s,h2⟩;have h4:y.getLast e=c:=by simpa using h3
  rw [<-h4,h1]
theorem agh {N:List (List Int)}(V:Pre N)(s:List Int)(c:Int):lsf N (s++[c])=lsf N (lsf N s++[c]):=by
 refine aiB (aeD V.1 _) ?_ V.1 (fun z I J=>?_)
 · refine (ab1 N _).trans ?_;obtain⟨t,Y⟩:=ab1 N s;exact⟨t,by rw [<-ayi,Y]⟩
 ·
  rcases am7 I with rfl | ⟨y,rfl,U⟩
  · exact axh _
  · have Z:=V.2 _ _ J;have X:=aj9 Z U;refine aj9 J ?_;obtain⟨t,Y⟩:=List.suffix_of_suffix_length_le U (ab1 N s) X;exact⟨t,by rw [<-ayi,Y]⟩
def ado (N:List (List Int))(x:List Int):List Int:=lsf N x.tail
def adl (N:List (List Int)):Nat->List Int->List (List Int)
 | 0,x=>[x]
 | n+1,x=>if x=[] then [x] else x :: adl N n (ado N x)
theorem adC {N:List (List Int)}{x:List Int}(h:x≠[]):(ado N x).length<x.length:=by
 have h1:=(ab1 N x.tail).length_le;have:x.length≠0:=fun e=>h (ayk e);rw [List.length_tail] at h1;unfold ado
 omega
theorem alY (N:List (List Int))(n:Nat)(x:List Int):∃l,adl N n x=x :: l:=by
 cases n with
 | zero=>exact⟨[],rfl⟩
 | succ n=>
  unfold adl
  split
  · exact⟨[],rfl⟩
  · exact⟨_,rfl⟩
theorem aiT {N:List (List Int)}{c:Int}(h:[c] ∉ N):lsf N [c]=[]:=by
 unfold lsf;rw [if_neg h]
 rfl
theorem afE {N:List (List Int)}(X:Pre N)(c:Int):∀{n:Nat} {x:List Int},x∈N->x.length<=n->
  lsf N (x++[c])=match (adl N n x).find? (fun y=>decide (y++[c]∈N)) with | some y=>y++[c] | none=>[]
 | n,x,hx,hn=>by
  by_cases Y:x++[c]∈N
  · rw [acM Y];obtain⟨l,U⟩:=alY N n x;rw [U,List.find?_cons,decide_eq_true Y]
  ·
   cases n with
   | zero=>
    have:x=[]:=ayk (by omega);subst this;have Z:[c] ∉ N:=Y;show lsf N [c]=_;rw [aiT Z];unfold adl;rw [List.find?_cons,decide_eq_false Y]
    rfl
   | succ n=>
    unfold adl
    by_cases e:x=[]
    ·
     subst e;have Z:[c] ∉ N:=Y;show lsf N [c]=_;rw [aiT Z,if_pos rfl,List.find?_cons,decide_eq_false Y]
     rfl
    ·
     rw [if_neg e,List.find?_cons,decide_eq_false Y];dsimp only;have V:=afE X c (n:=n) (x:=ado N x) (aeD X.1 _) (by have:=adC (N:=N) e;omega);rw [<-V];unfold ado
     rw [<-agh X]
     cases x with
     | nil=>exact absurd rfl e
     | cons a t=>
      have Z:a :: (t++[c]) ∉ N:=Y;show lsf N (a :: (t++[c]))=lsf N (t++[c])
      conv=>lhs;unfold lsf
      rw [if_neg Z]
theorem acK (ws:List (List Int)):Pre (aa0 ws):=
 ⟨(aal ws).2 (.inl rfl),fun x c h=>by
  have:=((aal ws).1 h).up;rw [azc] at this;exact (aal ws).2 this⟩
theorem arM {N:List (List Int)}{b:List Int}{k:Nat}(Z:k<b.length)(h:b.drop k ∉ N):lsf N (b.drop k)=lsf N (b.drop (k+1)):=by
 rw [List.drop_eq_getElem_cons Z] at h ⊢
 conv=>lhs;unfold lsf
 rw [if_neg h]
theorem amt {ws:List (List Int)}{i k:Nat}{x y:List Int}(V:(aa0 ws)[i]?=some x)(Z:(aa0 ws)[k]?=some y)(h:y.length<x.length):k<i:=by
 have h1:=(awR.1 V);have h2:=(awR.1 Z)
 rcases Nat.lt_trichotomy k i with Y | rfl | X
 · exact Y
 · rw [V] at Z;have:=awV Z;rw [this] at h;omega
 · have:=List.pairwise_iff_getElem.1 (aac ws) i k h1.1 h2.1 X;rw [h1.2,h2.2] at this;have:=alF this;omega
def agU (ws:List (List Int))(x:List Int):Int:=aaR (aa0 ws) (ado (aa0 ws) x)
def aaA (ws:List (List Int)):List Int:=(aa0 ws).map (agU ws)
theorem aiM {ws:List (List Int)}(x:List Int):∃k:Nat,agU ws x=k/\(aa0 ws)[k]?=some (ado (aa0 ws) x):=by
 have Y:=aeD (acK ws).1 x.tail;obtain⟨k,Z⟩:=ayB Y;exact⟨k,aae (aac ws).nodup Z,Z⟩
theorem aun {ws:List (List Int)}{x:List Int}{c:Int}(h0:x≠[]):ado (aa0 ws) (x++[c])=lsf (aa0 ws) (ado (aa0 ws) x++[c]):=by
 unfold ado
 rw [<-agh (acK ws)]
 cases x with
 | nil=>exact absurd rfl h0
 | cons a t=>rfl
theorem atp {ws:List (List Int)}(c:Int):ado (aa0 ws) [c]=[]:=rfl
def au7 (b e:List Int):Bool:=decide (e.length<=b.length)&&decide (b.drop (b.length-e.length)=e)
theorem aql {b e:List Int}:au7 b e=true↔e <:+b:=by
 unfold au7;rw [ayz,decide_eq_true_iff,decide_eq_true_iff]
 constructor
 · rintro ⟨_,h⟩;exact List.suffix_iff_eq_drop.2 h.symm
 · intro h;exact⟨h.length_le,(List.suffix_iff_eq_drop.1 h).symm⟩
section
variable {ws:List (List Int)}
theorem asv (b:List Int)(c:Int):au7 (b++[c]) (lsf (aa0 ws) (b++[c]))=true/\(lsf (aa0 ws) (b++[c])).length<=(lsf (aa0 ws) b).length+1/\lsf (aa0 ws) (b++[c])=lsf (aa0 ws) (lsf (aa0 ws) b++[c]):=by
 have h:=agh (acK ws) b c;refine⟨aql.2 (ab1 _ _),?_,h⟩;rw [h];have:=(ab1 (aa0 ws) (lsf (aa0 ws) b++[c])).length_le;rw [List.length_append,aza] at this;exact this
end
section
open Go Go.RowKit Go.Sort
def acO (U B:List Int):Nat->Int×Int->Option Int
 | 0,_=>none
 | j+1,q=>if q=((U[j+1]?).getD 0,(B[j+1]?).getD 0) then some ((j:Int)+1) else acO U B j q
theorem aif {U B:List Int}{q:Int×Int}{k:Int}:∀{j:Nat},acO U B j q=some k->∃i:Nat,1<=i/\i<=j/\k=i/\q=((U[i]?).getD 0,(B[i]?).getD 0)
 | 0,h=>by simp [acO] at h
 | j+1,h=>by
  unfold acO at h
  split at h
  ·
   rename_i Z
   exact⟨j+1,by omega,axe _,by have:=awV h;omega,Z⟩
  · obtain⟨i,h1,h2,h3⟩:=aif h;exact⟨i,h1,by omega,h3⟩
theorem ai0 {U B:List Int}{q:Int×Int}:∀{j:Nat},acO U B j q=none->∀i:Nat,1<=i->i<=j->q≠((U[i]?).getD 0,(B[i]?).getD 0)
 | 0,h,i,h1,h2=>by omega
 | j+1,h,i,h1,h2=>by
  unfold acO at h
  split at h
  · cases h
  ·
   rename_i Z
   by_cases e:i=j+1
   · subst e;exact Z
   · exact ai0 h i h1 (by omega)
section
variable {ws:List (List Int)}
theorem aav {i:Nat}{x:List Int}(Z:(aa0 ws)[i]?=some x):i=0↔x=[]:=by
 have h0:=aaf ws
 constructor
 · rintro rfl;rw [h0] at Z;exact (awV Z).symm
 · rintro rfl;have h1:=aae (aac ws).nodup Z;have h2:=aae (aac ws).nodup h0;omega
theorem atj {i k:Nat}{x:List Int}(Y:(aa0 ws)[i]?=some x)(Z:(aa0 ws)[k]?=some x):i=k:=by
 have h1:=aae (aac ws).nodup Y;have h2:=aae (aac ws).nodup Z;omega
theorem ada {i:Nat}{y:List Int}(Z:(aa0 ws)[i]?=some y):(aa5 ws).up[i]?=some (aaR (aa0 ws) y.dropLast)/\(aa5 ws).byt[i]?=some (acH y)/\(aa5 ws).dep[i]?=some (y.length:Int)/\(aa5 ws).wrd[i]?=some (aaR ws y):=by
 simp [aa5,Z]
theorem ak5 {y:List Int}(Z:y∈aa0 ws):y.dropLast∈aa0 ws:=(aal ws).2 ((aal ws).1 Z).up
theorem ah9 {y:List Int}(h:y≠[]):y=y.dropLast++[acH y]:=by
 obtain⟨q,Z⟩:∃q,y.length=q+1:=⟨y.length-1,by have:y.length≠0:=fun e=>h (ayk e);omega⟩;unfold acH;rw [az7 h];exact (ayO h).symm
theorem aqM {z:Nat}{x:List Int}(C:(aa0 ws)[z]?=some x)(c:Int) :
  acO (aa5 ws).up (aa5 ws).byt ((aa0 ws).length-1) ((z:Int),c)=if x++[c]∈aa0 ws then some (aaR (aa0 ws) (x++[c])) else none:=by
 have Z:=(aac ws).nodup
 cases e:acO (aa5 ws).up (aa5 ws).byt ((aa0 ws).length-1) ((z:Int),c) with
 | some k=>
  obtain⟨i,h1,h2,rfl,N⟩:=aif e;obtain⟨y,Y⟩:∃y,(aa0 ws)[i]?=some y:=⟨(aa0 ws)[i]'(by omega),by simp⟩;obtain⟨u1,X,_⟩:=ada Y;rw [u1,X] at N;simp only [ayr,ayU] at N;have V:y≠[]:=fun D=>by have:=(aav Y).2 D;omega
  obtain⟨j,I⟩:=ayB (ak5 (ay9 Y));have s:=aae Z I;have J:j=z:=by omega
  subst J;rw [C] at I;have U:x++[c]=y:=by rw [awV I,N.2];exact (ah9 V).symm
  rw [U,if_pos (ay9 Y),aae Z Y]
 | none=>
  rw [if_neg];intro B;obtain⟨i,H⟩:=ayB B;have A:=(awR.1 H).1;have v:i≠0:=fun D=>by have:=(aav H).1 D;simp at this
  obtain⟨u1,X,_⟩:=ada H;refine ai0 e i (by omega) (by omega) ?_;rw [u1,X];simp only [ayr,ayU,azc];refine⟨(aae Z C).symm,?_⟩;simp [acH]
def chN (L:List Int):Nat->Nat->List Nat
 | 0,z=>[z]
 | f+1,z=>if z=0 then [z] else z :: chN L f ((L[z]?).getD 0).toNat
def aeT (ws:List (List Int))(L:List Int)(i:Nat):Prop:=∀(j:Nat) (x:List Int),j<i->(aa0 ws)[j]?=some x->L[j]?=some (agU ws x)
theorem aeT.at_ {L:List Int}{i z:Nat}(h:aeT ws L i){x:List Int}(X:z<i)(Z:(aa0 ws)[z]?=some x)(h0:z≠0):∃k:Nat,L[z]?=some (k:Int)/\k<z/\(aa0 ws)[k]?=some (ado (aa0 ws) x):=by
 obtain⟨k,h1,h2⟩:=aiM (ws:=ws) x;have Y:=h z x X Z;rw [h1] at Y;refine⟨k,Y,amt Z h2 (adC fun e=>h0 ((aav Z).2 e)),h2⟩
theorem aiF {L:List Int}{i:Nat}(h:aeT ws L i):∀{f g z:Nat} {x:List Int},z<i->z<=f->(aa0 ws)[z]?=some x->x.length<=g->(chN L f z).map (fun k=>(aa0 ws)[k]?)=(adl (aa0 ws) g x).map some
 | 0,g,z,x,hz,hf,hx,hg=>by
  obtain rfl:z=0:=by omega
  have Z:=(aav hx).1 rfl;subst Z
  cases g<;>simp [chN,adl,hx]
 | f+1,g,z,x,hz,hf,hx,hg=>by
  unfold chN
  by_cases h0:z=0
  ·
   subst h0;have Z:=(aav hx).1 rfl;subst Z
   cases g<;>simp [adl,hx]
  · have Z:x≠[]:=fun e=>h0 ((aav hx).2 e);obtain⟨k,h1,h2,h3⟩:=h.at_ hz hx h0;obtain⟨g',rfl⟩:∃g',g=g'+1:=⟨g-1,by have:x.length≠0:=fun e=>Z (ayk e);omega⟩;unfold adl;rw [if_neg h0,if_neg Z,h1,ax0,ax0,hx,ayr,axs,aiF (g:=g') h (by omega) (by omega) h3 (by have:=adC (N:=aa0 ws) Z;omega)]
theorem ash {L:List Int}{i f g z0:Nat}(h:aeT ws L i){x:List Int}(V:z0<i)(I:z0<=f)(U:(aa0 ws)[z0]?=some x)(J:x.length<=g){p:List Nat}{r:List Nat}(N:chN L f z0=p++r) :
  ∃Y Z,adl (aa0 ws) g x=Y++Z/\p.map (fun k=>(aa0 ws)[k]?)=Y.map some/\r.map (fun k=>(aa0 ws)[k]?)=Z.map some:=by
 have X:=aiF h V I U J;rw [N,ay7] at X;obtain⟨Y,Z,h1,h2,h3⟩:=List.map_eq_append_iff.1 X.symm;exact⟨Y,Z,h1,h2.symm,h3.symm⟩
theorem ajR {c:Int}{p:List Nat}{Y:List (List Int)}(V:p.map (fun k=>(aa0 ws)[k]?)=Y.map some)(U:∀y∈p,acO (aa5 ws).up (aa5 ws).byt ((aa0 ws).length-1) ((y:Int),c)=none):∀y∈Y,¬(y++[c]∈aa0 ws):=by
 intro y X N;have:some y∈p.map (fun k=>(aa0 ws)[k]?):=by rw [V];exact List.mem_map_of_mem X
 obtain⟨k,J,Z⟩:=axE.1 this;have h1:=U k J;rw [aqM Z,if_pos N] at h1
 cases h1
theorem apY {L:List Int}{i f z0 z:Nat}(h:aeT ws L i){x:List Int}(J:z0<i)(B:z0<=f)(V:(aa0 ws)[z0]?=some x){p r:List Nat}{c k:Int}(H:chN L f z0=p++[z]++r)
  (C:∀y∈p,acO (aa5 ws).up (aa5 ws).byt ((aa0 ws).length-1) ((y:Int),c)=none) (Z:acO (aa5 ws).up (aa5 ws).byt ((aa0 ws).length-1) ((z:Int),c)=some k):k=aaR (aa0 ws) (lsf (aa0 ws) (x++[c])):=by
 obtain⟨v,A,h1,h2,_⟩:=ash h J B V (axe _) H;rw [ay7] at h2;obtain⟨N,X,rfl,h3,h4⟩:=List.map_eq_append_iff.1 h2.symm;obtain⟨y,rfl,I⟩:∃y,X=[y]/\(aa0 ws)[z]?=some y:=by
  cases X with
  | nil=>simp at h4
  | cons y t=>
   cases t with
   | nil=>exact⟨y,rfl,by simpa using h4.symm⟩
   | cons _ _=>simp at h4
 rw [aqM I] at Z;have U:y++[c]∈aa0 ws:=by
  by_cases e:y++[c]∈aa0 ws
  · exact e
  · rw [if_neg e] at Z;cases Z
 rw [if_pos U] at Z;rw [afE (acK ws) c (ay9 V) (axe _),h1];have Y:N.find? (fun y=>decide (y++[c]∈aa0 ws))=none:=by
  rw [List.find?_eq_none];intro q D
  simpa using ajR h3.symm C q D
 rw [ayi,List.find?_append,Y];simp [U];exact (awV Z).symm
theorem apz {L:List Int}{i f z0:Nat}(h:aeT ws L i){x:List Int}(X:z0<i)(N:z0<=f)(Y:(aa0 ws)[z0]?=some x){c:Int}
  (U:∀y∈chN L f z0,acO (aa5 ws).up (aa5 ws).byt ((aa0 ws).length-1) ((y:Int),c)=none):(0:Int)=aaR (aa0 ws) (lsf (aa0 ws) (x++[c])):=by
 have J:=aiF h X N Y (axe _);rw [afE (acK ws) c (ay9 Y) (axe _)];have Z:(adl (aa0 ws) x.length x).find? (fun y=>decide (y++[c]∈aa0 ws))=none:=by
  rw [List.find?_eq_none];intro q V
  simpa using ajR J U q V
 rw [Z];have:=aae (aac ws).nodup (aaf ws);simp [this]
theorem acd {j:Nat}{x:List Int}(Z:(aa0 ws)[j]?=some x):(aaA ws)[j]?=some (agU ws x):=by simp [aaA,Z]
theorem aqC (ws:List (List Int))(i:Nat):aeT ws (aaA ws) i:=fun j x _ Z=>acd Z
theorem atn {j u:Nat}{x:List Int}(V:(aa0 ws)[j]?=some x)(h0:j≠0)(N:(aa5 ws).up[j]?=some (u:Int)) :
  ∃y,(aa0 ws)[u]?=some y/\u<j/\(aa5 ws).byt[j]?=some (acH x)/\x=y++[acH x]/\(u=0->agU ws x=0)/\(u≠0->∃(k:Nat) (v:List Int),agU ws y=k/\(aa0 ws)[k]?=some v/\agU ws x=aaR (aa0 ws) (lsf (aa0 ws) (v++[acH x]))):=by
 have Y:x≠[]:=fun e=>h0 ((aav V).2 e);obtain⟨u1,J,_⟩:=ada V;obtain⟨q,X⟩:=ayB (ak5 (ay9 V));have I:=aae (aac ws).nodup X;rw [u1,I] at N;obtain rfl:q=u:=by have:=awV N;omega
 have Z:=ah9 Y;refine⟨x.dropLast,X,amt V X (by rw [List.length_dropLast];have:x.length≠0:=fun e=>Y (ayk e);omega),J,Z,fun e=>?_,fun e=>?_⟩
 · have U:x.dropLast=[]:=(aav X).1 e;rw [U] at Z;unfold agU;rw [Z];show aaR (aa0 ws) (ado (aa0 ws) ([]++[acH x]))=0;rw [ay0,atp];exact aae (aac ws).nodup (aaf ws)
 ·
  have U:x.dropLast≠[]:=fun H=>e ((aav X).2 H);obtain⟨k,h1,h2⟩:=aiM (ws:=ws) x.dropLast;refine⟨k,_,h1,h2,?_⟩;rw [<-aun U,<-Z]
  rfl
end
end
section
abbrev Sv:=Option Addr×Nat×Nat
abbrev svV (v:Sv):Value:=.slice v.1 v.2.1 v.2.2
structure adj (g n:Nat)(l:List (List Int))(W:World):Prop where
 ex:∃vs:List Sv,W.heap[g]?=some (.cells (vs.map svV).toArray 32 (0,0))/\vs.length=n/\l.length<=n/\∀(i:Nat) (v:Sv) (x:List Int),vs[i]?=some v->l[i]?=some x->Bys W v.1 v.2.1 x/\v.2.1<=v.2.2
theorem ar8:(ZP.info? 32).map (fun i=>(i.zero,i.size,i.bytes))=some (some (.slice none 0 0),1,24):=by kernel_rfl
def ac7 (n:Nat):Array Value:=Array.replicate n (.slice none 0 0)
theorem amZ (n:Nat):madeCells (Value.slice none 0 0).cells n=ac7 n:=by
 apply Array.ext
 · simp [madeCells,ac7]
 · intro i h1 h2;simp [madeCells,ac7,Value.cells,Nat.mod_one]
theorem aqj {T:aaN}{i:Nat}(X:1<=i)(h:ahD T i=none):∀k,i<=k->ahD T k=none:=by
 intro k Z;obtain⟨d,rfl⟩:∃d,k=i+d:=⟨k-i,by omega⟩;clear Z
 induction d with
 | zero=>exact h
 | succ d ih=>
  obtain⟨j,Y⟩:∃j,i+d=j+1:=⟨i+d-1,by omega⟩;rw [show i+(d+1)=j+2 by omega];unfold ahD;rw [<-Y,ih]
  rfl
theorem Bys.setSl {w:World}{a:Option Addr}{n:Nat}{x:List Int}(h:Bys w a n x){g i:Nat}{N:List Sv}{t:TypeId}(H:w.heap[g]?=some (.cells (N.map svV).toArray t (0,0)))(u:Value):Bys (w.setCell ⟨g,i,none⟩ u) a n x:=by
 refine⟨⟨h.1.1,?_⟩,h.2⟩
 rcases h.1.2 with h0 | ⟨b,off,e,Z,U⟩
 · exact .inl h0
 ·
  by_cases I:x=[]
  · left;have:=h.1.1;rw [I] at this;simpa using this.symm
  ·
   refine .inr ⟨b,off,e,by simpa [World.setCell] using Z,fun j y V=>?_⟩;have X:g≠b:=by
    rintro rfl;have Y:=U j y V;rw [cell_of_row w g (off+j) _ _ _ H] at Y;simp only [ax9,axa,ayw] at Y;obtain⟨v,_,J⟩:=Y
    cases J
   rw [azi _ _ _ _ X];exact U j y V
theorem adj.step {g n i:Nat}{l:List (List Int)}{W U:World}(s:adj g n l W)(z:l.length=i)(o:i<n)(H:Below W.heap.size W U){a:Option Addr}{m c:Nat}{x:List Int}(C:Bys U a m x)(B:m<=c) :
  adj g n (l++[x]) (U.setCell ⟨g,i,none⟩ (.slice a m c)):=by
 obtain⟨D,Y,N,A,X⟩:=s.ex;have h2:U.heap[g]?=_:=(H.block g (awU.1 Y).1).trans Y;refine⟨D.set i (a,m,c),?_,by simp [N],by simp;omega,fun j v y V Z=>?_⟩
 ·
  have:=aa4 (i:=i) h2 (.slice a m c)
  simpa [axc,svV] using this
 ·
  by_cases I:j=i
  · subst I;rw [ayE (by omega)] at V;obtain rfl:=awV V;rw [<-z,ayK] at Z;obtain rfl:=awV Z;exact⟨C.setSl h2 _,B⟩
  · rw [ayF (Ne.symm I)] at V;have J:=(awR.1 Z).1;rw [ax8 (by simp at J;omega)] at Z;obtain⟨h3,h4⟩:=X j v y V Z;exact⟨(h3.below H).setSl h2 _,h4⟩
theorem am8 {T:aaN}:∀{i:Nat} {l:List (List Int)},ahD T i=some l->∀x∈l,x.length<i
 | 0,l,h=>by simp [ahD] at h
 | 1,l,h=>by simp [ahD] at h;subst h;simp
 | i+2,l,h=>by
  unfold ahD at h;obtain⟨V,h0,h1⟩:=az5.1 h;have Y:=am8 h0
  split at h1
  ·
   split at h1
   ·
    obtain⟨p,X,rfl⟩:=ayw.1 h1;intro x Z
    rcases ayd.1 Z with Z | Z
    · have:=Y x Z;omega
    · rw [ayp] at Z;subst Z;have:=Y p (ay9 X);simp;omega
   · cases h1
  · cases h1
theorem abx {P:Program}{w:World}{V:Array Oper}{o:Oper}{a:Act}{K:Act->World->Prop}{Q:Exit->Act->World->Prop}{E:Prop}(H:o.guard=none)(s x:Operand)(t:TypeId)
  (ho:o.op=.call { callee:=.builtin .append,args:=#[s,x],argTypes:=#[t,t] }) {α:Type} {enc:α->Value} (N:∀x,(enc x).oneCell'=true)
  (base:Nat) (e:TypeId) (i:TypeInfo) (z:Value) (bytes:Nat) (ht:P.underlying t=some (.slice e)) (hi:P.info? e=some i) (B:i.zero=some z) (Y:i.size=1) (D:i.bytes=bytes) (J:z.cells.size=1)
  (v:Value) (n:Nat) (xs:List Value) (hs:a.eval s=v) (U:w.ownsRow base e 1 v n xs) (A:Option Addr) (m c:Nat) (ys:List α) (y:a.eval x=.slice A m c) (I:Sl1 enc w A m ys)
  (C:n+m<=maxLen) (Z:(n+m)*bytes<=140737488355328) (X:base<=w.heap.size)
  (h:∀v' w',w'.ownsRow base e 1 v' (n+m) (xs++ys.map enc)->w.grownBy w' v.ownBlock->(v'.ownBlock=v.ownBlock∨v'.ownBlock=some w.heap.size)->K (a.put o.dst v') w') :
  if Region.wanted o (yielded V a.tmps)=true then Oper.wp P o a w K Q else E:=by
 have j:Region.wanted o (yielded V a.tmps)=true:=by simp [Region.wanted,H]
 rw [if_pos j];obtain⟨v',w',hr,h2,h3,h4⟩:=ae7 (P:=P) N w base t o.type e i z bytes ht hi B Y D J v n xs U A m c ys I C Z X;unfold Oper.wp execOp;simp only [ho,resolve,invoke,builtin,awX,awY,Result.andThen_ok,awZ,ax0,ax1,hs,y,hr];exact h v' w' h2 h3 h4
attribute [local go_sem ↓] Go.wp_at_zero Go.wp_at_succ
theorem ar3 (t:TV)(T:aaN)(w:World)(hT:Tri w t T)(hb:t.un<=140737488351232) :
    Calls ZP 276 #[.agg t.cells] w fun e w'=>(∀D,spO T=some D->∃g,e=.returned (.tuple #[.slice (some ⟨g,0,none⟩) D.length D.length,.bool true])/\w.heap.size<=g/\adj g D.length D w')/\(spO T=none->e=.returned (.tuple #[.slice none 0 0,.bool false]))/\Below w.heap.size w w':=by
  obtain⟨ua,un,uc,da,dn,dc,xa,xn,xc,ba,bn,bc⟩:=t;dsimp only at hb;obtain⟨W,hW⟩:∃W,W=w.alloc (.cells #[.slice ua un uc,.slice da dn dc,.slice xa xn xc,.slice ba bn bc] 150):=⟨_,rfl⟩;have z:Below w.heap.size w W:=by rw [hW];exact aa1 _ _
  have hO:Bx w.heap.size [.cells #[.slice ua un uc,.slice da dn dc,.slice xa xn xc,.slice ba bn bc] 150] W:=by rw [hW];exact (Bx.nil _ w).snoc _ rfl
  have ai:=hT.below z
  by_cases ae:1<=un/\un<=400/\bn=un/\dn=un/\xn=un
  ·
    obtain⟨h1,h2,e1,e2,e3⟩:=ae;subst e1 e2 e3;have HO:Hid (spO T=ahD T xn):=by
      unfold Hid spO;rw [hT.up.1,hT.byt.1.1,hT.dep.1,hT.wrd.1,if_pos ⟨h1,h2,rfl,rfl,rfl⟩]
    have c0:W.cell? ⟨w.heap.size,0,none⟩=some (.slice ua _ uc):=hO.cell (i:=0) rfl rfl;have c1:W.cell? ⟨w.heap.size,1,none⟩=some (.slice da _ dc):=hO.cell (i:=0) rfl rfl;have c2:W.cell? ⟨w.heap.size,2,none⟩=some (.slice xa _ xc):=hO.cell (i:=0) rfl rfl;have c3:W.cell? ⟨w.heap.size,3,none⟩=some (.slice ba _ bc):=hO.cell (i:=0) rfl rfl;have aw:∀V:World,(Instr.makeSlice 22 (.int .i64 xn) (.int .i64 xn)).run ZP V=.ok (.slice (some ⟨V.heap.size,0,none⟩) xn xn) (V.alloc (.cells (ac7 xn) 32)):=fun V=>by
      obtain⟨i0,hi,B,J,C⟩:=info_parts ar8;have h:=run_makeSlice (P:=ZP) (w:=V) 22 32 i0 (.slice none 0 0) underlying22 hi B .i64 .i64 (xn:Int) (xn:Int) (by omega) (by omega) (by rw [J];omega) (by rw [C];omega) (by omega);rw [J] at h;have e1:(xn:Int).toNat*1=xn:=by omega
      rw [e1,amZ,axs] at h;exact h
    go_enter func276,ntmps276;go_upto_region 1 with fail
    rw [<-hW];clear hW;go_upto_region 5 with fail
    clear aw c0 c1 c2 c3;obtain⟨V,hV⟩:∃V,V=W.alloc (.cells (ac7 xn) 32):=⟨_,rfl⟩;obtain⟨g,hg⟩:∃g,g=W.heap.size:=⟨_,rfl⟩;have hR:adj g xn [[]] V:=by
      rw [hV,hg];refine⟨List.replicate xn (none,0,0),?_,by simp,by simpa using h1,fun i v x y hx=>?_⟩
      · rw [axg];simp [ac7,svV]
      ·
        rw [ayJ] at y
        split at y
        ·
          obtain rfl:=awV y
          cases i with
          | zero=>simp at hx;subst hx;exact⟨Bys.nil _ _,axe _⟩
          | succ i=>simp at hx
        · cases y
    have X:Below W.heap.size W V:=by rw [hV];exact aa1 _ _
    have a8:=hO.below X;rw [<-hV,<-hg];clear hV;have HG:=ax3 hg;clear hg;go_wp2
    go_loopw [6,7] (fun s6 _ wr=>∃(i:Nat) (l:List (List Int)),1<=i/\i<=xn/\s6=.int .i64 i/\Hid (ahD T i=some l)/\adj g xn l wr/\Below W.heap.size W wr/\Bx w.heap.size [.cells #[.slice ua xn uc,.slice da xn dc,.slice xa xn xc,.slice ba xn bc] 150] wr) (fun s6 _ _=>xn-(intOf s6).toNat)
    case atStart=>exact⟨1,[[]],axe _,h1,rfl,rfl,hR,X,a8⟩
    case round=>
      clear hR X a8;obtain⟨i,l,aU,aT,rfl,HS,hR,X,a8⟩:=hrel;have c0:wr.cell? ⟨w.heap.size,0,none⟩=some (.slice ua xn uc):=a8.cell (i:=0) rfl rfl
      by_cases af:i<xn
      ·
        have ay:decide ((i:Int)<xn)=true:=by simp;omega
        obtain⟨b0,o0,u,aD,aR,cu,hu⟩:=abm (ai.up.below X) af;subst aD;have HU:=ax3 hu;clear hu
        by_cases au:0<=u/\u<i
        ·
          have am:decide (u<0)=false:=by simp;omega
          have az:decide ((i:Int)<=u)=false:=by simp;omega
          obtain⟨k,rfl⟩:∃k:Nat,u=k:=⟨u.toNat,by omega⟩;have aS:k<i:=by omega
          clear au;obtain⟨vs,A,aP,ax,ad⟩:=hR.ex;have al:l.length=i:=acR HS.out;obtain⟨⟨va,H,vc⟩,y⟩:∃v,vs[k]?=some v:=⟨vs[k]'(by omega),by simp⟩;obtain⟨p,hp⟩:∃p,l[k]?=some p:=⟨l[k]'(by omega),by simp⟩;obtain⟨s,ar⟩:=ad k _ _ y hp;dsimp only at s ar;obtain⟨b3,o3,c,rfl,aC,cb,hc⟩:=abm (ai.byt.1.below X) af;have aA:=ai.byt.2 c (ay9 hc);have aJ:Hid (ahD T (i+1)=some (l++[p++[c]])):=by
            obtain⟨j,rfl⟩:∃j,i=j+1:=⟨i-1,by omega⟩;show ahD T (j+1+1)=_;unfold ahD;rw [HS.out,az8,HU.out,hc];dsimp only;rw [if_pos (show 0<=(k:Int)/\(k:Int)<(j:Int)+1 by omega),axs,hp]
            rfl
          have aK:Hid (p.length<i):=am8 HS.out p (ay9 hp);have ag:g<wr.heap.size:=(awU.1 A).1;have HK:Hid (∀w',Below wr.heap.size wr w'->w'.cell? ⟨g,k,none⟩=some (.slice va H vc)/\w'.cell? ⟨w.heap.size,3,none⟩=some (.slice (some ⟨b3,o3,none⟩) xn bc)/\w'.cell? ⟨b3,o3+i,none⟩=some (.int .u8 c)):=by
            intro w' U;have aG:=a8.below U;refine⟨?_,aG.cell (i:=0) rfl rfl,(U.cell (p:=⟨b3,o3+i,none⟩) aC).trans cb⟩;rw [cell_of_row w' g k _ _ _ ((U.block g ag).trans A)];simp [y,svV]
          have aN:w.heap.size<g:=by
            have h:=HG.out;have:=hO 0 _ rfl;have:=(awU.1 this).1;omega
          have aI:g≠b3:=by
            rintro rfl;rw [cell_of_row wr g _ _ _ _ A] at cb;simp only [ax9,axa,ayw] at cb;obtain⟨v,_,y⟩:=cb
            cases y
          have aM:Hid (∀w',Below wr.heap.size wr w'->∀u,(w'.setCell ⟨g,i,none⟩ u).cell? ⟨g,k,none⟩=some (.slice va H vc)/\(w'.setCell ⟨g,i,none⟩ u).cell? ⟨w.heap.size,3,none⟩=some (.slice (some ⟨b3,o3,none⟩) xn bc)/\(w'.setCell ⟨g,i,none⟩ u).cell? ⟨b3,o3+i,none⟩=some (.int .u8 c)):=by
            intro w' U u;obtain⟨_,h2,h3⟩:=HK.out w' U;refine⟨?_,?_,?_⟩
            · rw [cell_of_row _ g k _ _ _ (aa4 (i:=i) ((U.block g ag).trans A) u),Array.getElem?_setIfInBounds_ne (by omega)];simp [y,svV]
            · rw [azi _ _ _ _ (by show g≠w.heap.size;omega)];exact h2
            · rw [azi _ _ _ _ aI];exact h3
          have HF:Hid (∀w',Below wr.heap.size wr w'->w'.cell? ⟨g,i,none⟩=some (svV (vs[i]'(by omega)))/\w'.frozen? ⟨g,i,none⟩=false):=by
            intro w' U;have:=(U.block g ag).trans A;refine⟨?_,by simp [World.frozen?,this]⟩;rw [cell_of_row w' g i _ _ _ this,ax9,axa,ay4 (by omega)]
            rfl
          clear cb hc y hp ad A ax;go_wp2;have aq:Below wr.heap.size wr wr.drew:=(axf _ _).drew;have i1:k<xn:=by omega
          have i2:(0:Int)<=(k:Int):=by omega
          have i3:(k:Int)<(xn:Int):=by omega
          have i4:(0:Int)<=(i:Int):=by omega
          have i5:(i:Int)<(xn:Int):=by omega
          obtain⟨k1,k2,k3⟩:=HK.out wr (axf _ _);have f0:=HF.out wr (axf _ _);have av:Bys wr.drew va H p:=s.below ((axf _ _).drew);have aO:H<400:=by have:=aK.out;have:=s.len;omega
          obtain⟨i0,hi,B,J,C⟩:=info_parts acy;have aj:∀o,Below wr.heap.size wr (wr.alloc o).drew:=fun o=>((axf _ _).alloc (axe _) o).drew;have ak:∀o,Bys (wr.alloc o).drew va H p:=fun o=>s.below (aj o);have ab:∀o,wr.heap.size<=(wr.alloc o).drew.heap.size:=fun o=>(aj o).size;have aE:∀(c:Int) (t:TypeId),Sl1 (Value.int .u8) (wr.alloc (.cells #[.int .u8 c] t)).drew (some ⟨wr.heap.size,0,none⟩) 1 [c]:=fun c t=>(Sl1.lay (Value.int .u8) wr [c] t _ rfl).below ((axf _ _).drew);have aH:∀o,Below wr.heap.size wr (wr.drew.alloc o):=fun o=>aq.alloc (axe _) o
          go_region_held3 (fun w'=>w'.cell? ⟨g,k,none⟩=some (.slice va H vc)/\w'.cell? ⟨w.heap.size,3,none⟩=some (.slice (some ⟨b3,o3,none⟩) xn bc)/\w'.cell? ⟨b3,o3+i,none⟩=some (.int .u8 c)) (first | (go_keep;done) | exact HK.out _ (aH _) | exact HK.out _ (Y.alloc Y.size _) | exact aM.out _ N _) (first
            | (refine abx (by rfl) _ _ 32 (by rfl) ah4 wr.heap.size 5 i0 (.int .u8 0) 1 underlying32 hi B J C rfl (.slice none 0 0) 0 [] (by rfl) (ayy _ _ _ _) va H vc p (by rfl) av.1 (by unfold maxLen;omega) (by omega) (axe _) ?_
               intro v1 w1 Z aa a7;have Y:Below wr.heap.size wr w1:=aq.grown aa (axe _) (fun k e=>by cases e);rw [axz,ay0] at Z;obtain⟨a1,c1,rfl,aB,_⟩:=aaC (enc:=Value.int .u8) (xs:=p) Z;obtain⟨d1,d2,d3⟩:=HK.out w1 Y;clear a7)
            | (refine abx (by rfl) _ _ 32 (by rfl) ah4 wr.heap.size 5 i0 (.int .u8 0) 1 underlying32 hi B J C rfl (.slice none 0 0) 0 [] (by rfl) (ayy _ _ _ _) va H vc p (by rfl) (ak _).1 (by unfold maxLen;omega) (by omega) (ab _) ?_
               intro v1 w1 Z aa a7;have Y:Below wr.heap.size wr w1:=(aj _).grown aa (ab _) (fun k e=>by cases e);have aF:Sl1 (Value.int .u8) w1 (some ⟨wr.heap.size,0,none⟩) 1 [c]:=(aE c _).below ((axf _ _).grown aa (axe _) (fun k e=>by cases e));rw [axz,ay0] at Z;obtain⟨a1,c1,rfl,aB,_⟩:=aaC (enc:=Value.int .u8) (xs:=p) Z;obtain⟨d1,d2,d3⟩:=HK.out w1 Y;clear a7)
            | (refine abx (by rfl) _ _ 32 (by rfl) ah4 wr.heap.size 5 i0 (.int .u8 0) 1 underlying32 hi B J C rfl (.slice a1 H c1) H (p.map (Value.int .u8)) (by rfl) (Z.alloc _) (some ⟨w1.heap.size,0,none⟩) 1 1 [c] (by rfl) (Sl1.lay (Value.int .u8) w1 [c] _ _ rfl) (by unfold maxLen;omega) (by omega) (by have:=Y.size;simp;omega) ?_
               intro v2 w2 I ah a6;have N:Below wr.heap.size wr w2:=(Y.alloc Y.size _).grown ah (by have:=Y.size;simp;omega) (fun j hj=>(Z.lt j hj).1);obtain⟨a2,c2,rfl,ao,ac⟩:=aaC (enc:=Value.int .u8) (xs:=p++[c]) (by simpa using I);obtain⟨e1,e2,e3⟩:=HK.out w2 N;obtain⟨e4,e5⟩:=HF.out w2 N;clear a6)
            | (refine abx (by rfl) _ _ 32 (by rfl) ah4 wr.heap.size 5 i0 (.int .u8 0) 1 underlying32 hi B J C rfl (.slice a1 H c1) H (p.map (Value.int .u8)) (by rfl) Z (some ⟨wr.heap.size,0,none⟩) 1 1 [c] (by rfl) aF (by unfold maxLen;omega) (by omega) Y.size ?_
               intro v2 w2 I ah a6;have N:Below wr.heap.size wr w2:=Y.grown ah Y.size (fun j hj=>(Z.lt j hj).1);obtain⟨a2,c2,rfl,ao,ac⟩:=aaC (enc:=Value.int .u8) (xs:=p++[c]) (by simpa using I);obtain⟨e1,e2,e3⟩:=HK.out w2 N;obtain⟨e4,e5⟩:=HF.out w2 N;clear a6))
          all_goals
            go_wp2;have ap:Below W.heap.size W (w2.setCell ⟨g,i,none⟩ (.slice a2 (H+1) c2)):=(X.trans (N.mono X.size)).setCell (by show W.heap.size<=g;exact axL HG.out.symm) _
            go_roundw
            case rel=>
              refine⟨i+1,_,by omega,by omega,by go_num,aJ,hR.step al af N ⟨ac,fun x hx=>?_⟩ ao,ap,hO.below ap⟩
              rcases ayd.1 hx with hx | hx
              · exact s.2 x hx
              · rw [ayp] at hx;subst hx;exact aA
            case measure=>simp [intOf];omega
        ·
          have HN:Hid (∀k,i+1<=k->ahD T k=none):=by
            refine aqj (by omega) ?_;obtain⟨j,rfl⟩:∃j,i=j+1:=⟨i-1,by omega⟩;unfold ahD;rw [HS.out,az8,HU.out]
            cases aV:T.byt[j+1]? with
            | none=>rfl
            | some c=>simp;omega
          by_cases aQ:u<0
          ·
            have am:decide (u<0)=true:=by simp;omega
            have HZ:Hid (spO T=none):=by rw [Hid,HO.out];exact HN.out xn (by omega)
            go_wp2;go_ret2;exact⟨fun D h=>(by rw [HZ.out] at h;cases h),fun _=>rfl,z.trans (X.mono z.size)⟩
          ·
            have am:decide (u<0)=false:=by simp;omega
            have az:decide ((i:Int)<=u)=true:=by simp;omega
            have HZ:Hid (spO T=none):=by rw [Hid,HO.out];exact HN.out xn (by omega)
            go_wp2;go_ret2;exact⟨fun D h=>(by rw [HZ.out] at h;cases h),fun _=>rfl,z.trans (X.mono z.size)⟩
      ·
        obtain rfl:i=xn:=by omega
        have ay:decide ((i:Int)<i)=false:=by simp
        have aL:Hid (l.length=i):=acR HS.out;go_wp2;go_ret2;refine⟨fun D h=>?_,fun h=>?_,z.trans (X.mono z.size)⟩
        · rw [HO.out,HS.out] at h;obtain rfl:=awV h;rw [aL.out];exact⟨g,rfl,by rw [HG.out];exact z.size,hR⟩
        · rw [HO.out,HS.out] at h;cases h
  ·
    have HZ:Hid (spO T=none):=by
      unfold Hid spO;rw [if_neg];rw [hT.up.1,hT.byt.1.1,hT.dep.1,hT.wrd.1];exact ae
    have c0:W.cell? ⟨w.heap.size,0,none⟩=some (.slice ua un uc):=hO.cell (i:=0) rfl rfl;have c1:W.cell? ⟨w.heap.size,1,none⟩=some (.slice da dn dc):=hO.cell (i:=0) rfl rfl;have c2:W.cell? ⟨w.heap.size,2,none⟩=some (.slice xa xn xc):=hO.cell (i:=0) rfl rfl;have c3:W.cell? ⟨w.heap.size,3,none⟩=some (.slice ba bn bc):=hO.cell (i:=0) rfl rfl
    by_cases q1:un<1
    ·
      have g1:decide ((un:Int)<1)=true:=by simp;omega
      go_enter func276,ntmps276;go_upto_region 1 with fail
      rw [<-hW];clear hW;go_wp2;go_ret2;exact⟨fun D h=>(by rw [HZ.out] at h;cases h),fun _=>rfl,z⟩
    ·
      have g1:decide ((un:Int)<1)=false:=by simp;omega
      by_cases q2:400<un
      ·
        have g2:decide (400<(un:Int))=true:=by simp;omega
        go_enter func276,ntmps276;go_upto_region 1 with fail
        rw [<-hW];clear hW;go_wp2;go_ret2;exact⟨fun D h=>(by rw [HZ.out] at h;cases h),fun _=>rfl,z⟩
      ·
        have g2:decide (400<(un:Int))=false:=by simp;omega
        by_cases q3:bn=un
        ·
          subst q3
          by_cases q4:dn=bn
          ·
            subst q4;have q5:xn≠dn:=fun e=>ae ⟨by omega,by omega,rfl,rfl,e⟩;have g5:((xn:Int) != dn)=true:=by simp;omega
            go_enter func276,ntmps276;go_upto_region 1 with fail
            rw [<-hW];clear hW;go_wp2;go_ret2;exact⟨fun D h=>(by rw [HZ.out] at h;cases h),fun _=>rfl,z⟩
          ·
            have g4:((dn:Int) != bn)=true:=by simp;omega
            go_enter func276,ntmps276;go_upto_region 1 with fail
            rw [<-hW];clear hW;go_wp2;go_ret2;exact⟨fun D h=>(by rw [HZ.out] at h;cases h),fun _=>rfl,z⟩
        ·
          have g3:((bn:Int) != un)=true:=by simp;omega
          go_enter func276,ntmps276;go_upto_region 1 with fail
          rw [<-hW];clear hW;go_wp2;go_ret2;exact⟨fun D h=>(by rw [HZ.out] at h;cases h),fun _=>rfl,z⟩
end
def aaa (g:Nat)(l:List Int)(W:World):Prop:=W.heap[g]?=some (.cells (l.map (Value.int .i64)).toArray 3 (0,0))
def abW (n:Nat):Array Value:=Array.replicate n (.int .i64 0)
theorem aeP (n:Nat):madeCells (Value.int .i64 0).cells n=abW n:=by
 apply Array.ext
 · simp [madeCells,abW]
 · intro i h1 h2;simp [madeCells,abW,Value.cells,Nat.mod_one]
theorem apZ {T:aaN}{n i:Nat}(h:aiI T n i=none):∀k,i<=k->aiI T n k=none:=by
 intro k Z;obtain⟨d,rfl⟩:∃d,k=i+d:=⟨k-i,by omega⟩;clear Z
 induction d with
 | zero=>exact h
 | succ d ih=>
  show aiI T n (i+d+1)=none;unfold aiI;rw [ih]
  rfl
theorem atl {T:aaN}{Z:List (List Int)}{i:Nat}(Y:i<=T.wrd.length)(h:aiI T Z.length i=none):nuO T Z=none:=by
 unfold nuO;rw [apZ h _ Y]
 rfl
theorem ape {Z:List (List Int)}{l:List Int}{i:Nat}(h:ajF Z l i=none):∀k,i<=k->ajF Z l k=none:=by
 intro k Y;obtain⟨d,rfl⟩:∃d,k=i+d:=⟨k-i,by omega⟩;clear Y
 induction d with
 | zero=>exact h
 | succ d ih=>
  show ajF Z l (i+d+1)=none;unfold ajF;rw [ih]
  rfl
theorem ad0 {Z:List (List Int)}{l:List Int}:∀{i:Nat} {r:List (List Int)},ajF Z l i=some r->r.length=i
 | 0,r,h=>by simp [ajF] at h;simp [<-h]
 | i+1,r,h=>by
  unfold ajF at h;obtain⟨X,h0,h⟩:=az5.1 h;have Y:=ad0 h0
  split at h
  ·
   split at h
   · cases h
   · obtain⟨p,V,rfl⟩:=ayw.1 h;simp [Y]
  · cases h
theorem apM {P:Sv->List Int->Prop}{X:List Sv}{r:List (List Int)}{v0:Sv}{U:List Int}(J:X.length=r.length)(h:∀(i:Nat) (v:Sv) (x:List Int),X[i]?=some v->r[i]?=some x->P v x)(h0:P v0 U) :
  ∀(i:Nat) (v:Sv) (x:List Int),(X++[v0])[i]?=some v->(r++[U])[i]?=some x->P v x:=fun i v x Z Y=>by
 rw [List.getElem?_append] at Z Y
 by_cases N:i<X.length
 · rw [if_pos N] at Z;rw [if_pos (by omega)] at Y;exact h i v x Z Y
 ·
  rw [if_neg N] at Z;rw [if_neg (by omega)] at Y;have V:i-X.length=0:=by
   have:=(awR.1 Z).1;simp at this;omega
  rw [V] at Z;rw [<-J,V] at Y;simp at Z Y;subst Z Y;exact h0
theorem aaa.new (W:World)(n:Nat):aaa W.heap.size (List.replicate n 0) (W.alloc (.cells (abW n) 3)):=by
 unfold aaa;rw [axg];simp [abW]
theorem alC (t:TV)(T:aaN)(g n:Nat)(J:List (List Int))(w:World)(hT:Tri w t T)(hR:adj g n J w)(hn:J.length=n)(aX:n<=400)(X:t.xn=n) :
  Calls ZP 277 #[.agg t.cells,.slice (some ⟨g,0,none⟩) n n] w fun e w'=>(∀ws,nuO T J=some ws->∃v c,e=.returned (.tuple #[.slice v ws.length c,.bool true])/\Wds w' v ws.length ws/\ws.length<=c)/\(nuO T J=none->e=.returned (.tuple #[.slice none 0 0,.bool false]))/\Below w.heap.size w w':=by
 obtain⟨ua,un,uc,da,dn,dc,xa,xn,xc,ba,bn,bc⟩:=t;dsimp only at X
 replace X:=X.symm
 subst X;obtain⟨W,hW⟩:∃W,W=w.alloc (.cells #[.slice ua un uc,.slice da dn dc,.slice xa n xc,.slice ba bn bc] 150):=⟨_,rfl⟩;have hB:Below w.heap.size w W:=by rw [hW];exact aa1 _ _
 have hO:Bx w.heap.size [.cells #[.slice ua un uc,.slice da dn dc,.slice xa n xc,.slice ba bn bc] 150] W:=by rw [hW];exact (Bx.nil _ w).snoc _ rfl
 have aI:=hT.below hB;have c2:W.cell? ⟨w.heap.size,2,none⟩=some (.slice xa n xc):=hO.cell (i:=0) rfl rfl;have aA:∀V:World,(Instr.makeSlice 30 (.int .i64 n) (.int .i64 n)).run ZP V=.ok (.slice (some ⟨V.heap.size,0,none⟩) n n) (V.alloc (.cells (abW n) 3)):=fun V=>by
  obtain⟨i0,hi,a7,B,a6⟩:=info_parts ac8;have h:=run_makeSlice (P:=ZP) (w:=V) 30 3 i0 (.int .i64 0) underlying30 hi a7 .i64 .i64 (n:Int) (n:Int) (by omega) (by omega) (by rw [B];omega) (by rw [a6];omega) (by omega);rw [B] at h;have e1:(n:Int).toNat*1=n:=by omega
  rw [e1,aeP,axs] at h;exact h
 go_enter func277,ntmps277;go_upto_region 1 with fail
 rw [<-hW];clear hW;go_upto_region 2 with fail
 clear aA;obtain⟨V,hV⟩:∃V,V=W.alloc (.cells (abW n) 3):=⟨_,rfl⟩;obtain⟨q,hq⟩:∃q,q=W.heap.size:=⟨_,rfl⟩;have hI:aaa q (List.replicate n 0) V:=by rw [hV,hq];exact aaa.new W n
 have Y:Below W.heap.size W V:=by rw [hV];exact aa1 _ _
 have aq:=hO.below Y;have aM:V.cell? ⟨w.heap.size,2,none⟩=some (.slice xa n xc):=aq.cell (i:=0) rfl rfl;rw [<-hV,<-hq];have HQ:=ax3 hq;clear hV hq;go_wp2
 go_loopw [7,19] (fun m s wr=>∃(i:Nat) (l:List Int) (k:Nat),i<=n/\s=.int .i64 i/\m=.int .i64 k/\Hid (aiI T n i=some (l,(k:Int)))/\l.length=n/\Hid (l.countP (fun x=>x != 0)=k)/\Hid (∀x∈l,0<=x/\x<n)/\aaa q l wr/\Below W.heap.size W wr) (fun _ s _=>n-(intOf s).toNat)
 case atStart=>
  refine⟨0,List.replicate n 0,0,axh _,rfl,rfl,rfl,by simp,by simp [Hid],?_,hI,Y⟩;intro x X;obtain⟨h0,rfl⟩:=List.mem_replicate.1 X;omega
 case round=>
  clear hI Y aq aM;obtain⟨i,l,k,b4,rfl,rfl,HS,al,HC,HE,hI,Y⟩:=hrel
  by_cases aB:i<n
  ·
   have aF:decide ((i:Int)<n)=true:=by simp;omega
   obtain⟨b0,o0,x,aG,z,cx,X⟩:=abm (aI.wrd.below Y) aB;subst aG;have HX:=ax3 X;clear X
   by_cases h1:x=-1
   ·
    have ae:Hid (aiI T n (i+1)=some (l,(k:Int))):=by
     unfold Hid aiI;rw [HS.out,az8,HX.out];simp [h1]
    subst h1;go_wp2
    go_roundw
    case rel=>exact⟨i+1,l,k,by omega,by go_num,rfl,ae,al,HC,HE,hI,Y⟩
    case measure=>simp [intOf];omega
   ·
    by_cases h2:0<=x/\x<n/\i≠0/\(l[x.toNat]?).getD 0=0
    ·
     obtain⟨h3,h4,h5,h6⟩:=h2;obtain⟨Z,rfl⟩:∃Z:Nat,x=Z:=⟨x.toNat,by omega⟩;rw [axs] at h6;have am:Z<n:=by omega
     have I:Z<l.length:=by omega
     have z:l[Z]=0:=by rw [ay4 I] at h6;exact h6
     have ae:Hid (aiI T n (i+1)=some (l.set Z i,((k+1:Nat):Int))):=by
      unfold Hid aiI;rw [HS.out,az8,HX.out];dsimp only;rw [if_neg h1,if_neg (by rw [axs,h6];omega),axs];simp
     have aR:Hid ((l.set Z (i:Int)).countP (fun x=>x != 0)=k+1):=by
      rw [Hid,List.countP_set I,HC.out,z];simp;omega
     have aQ:Hid (∀x∈l.set Z (i:Int),0<=x/\x<n):=fun x X=>by
      rcases List.mem_or_eq_of_mem_set X with h | rfl
      · exact HE.out x h
      · omega
     have aJ:aaa q (l.set Z i) (wr.setCell ⟨q,Z,none⟩ (.int .i64 i)):=by
      have:=aa4 (i:=Z) hI (.int .i64 i);unfold aaa
      simpa [axc] using this
     have aL:Below W.heap.size W (wr.setCell ⟨q,Z,none⟩ (.int .i64 i)):=Y.setCell (by show W.heap.size<=q;exact axL HQ.out.symm) _;have cq:wr.cell? ⟨q,Z,none⟩=some (.int .i64 0):=by
      rw [cell_of_row wr q Z _ _ _ hI];simp [I,z]
     have fq:wr.frozen? ⟨q,Z,none⟩=false:=by simp [World.frozen?,show wr.heap[q]?=_ from hI]
     have ak:(l.set Z (i:Int)).length=n:=by simpa using al
     have d1:(((Z:Int))==-1)=false:=by simp
     have aY:k<=n:=by have:=HC.out;have:=List.countP_le_length (p:=fun x:Int=>x != 0) (l:=l);omega
     have d2:decide ((Z:Int)<0)=false:=by simp
     have d3:decide ((n:Int)<=(Z:Int))=false:=by simp;omega
     have d4:((i:Int)==0)=false:=by simp;omega
     have i2:(0:Int)<=(Z:Int):=by omega
     have i3:(Z:Int)<(n:Int):=by omega
     clear hI z h6;go_wp2
     go_roundw
     case rel=>exact⟨i+1,_,k+1,by omega,by go_num,by go_num,ae,ak,aR,aQ,aJ,aL⟩
     case measure=>simp [intOf];omega
    ·
     have HN:Hid (nuO T J=none):=by
      refine atl (i:=i+1) (by have h7:=hT.wrd.1;dsimp only at h7;omega) ?_;rw [hn];unfold aiI;rw [HS.out,az8,HX.out];dsimp only;rw [if_neg h1,if_pos]
      rcases Classical.em (x<0) with h3 | h3
      · exact .inl h3
      ·
       rcases Classical.em ((n:Int)<=x) with h4 | h4
       · exact .inr (.inl h4)
       ·
        rcases Classical.em (i=0) with h5 | h5
        · exact .inr (.inr (.inl h5))
        · exact .inr (.inr (.inr fun h6=>h2 ⟨by omega,by omega,h5,h6⟩))
     have o:Below w.heap.size w wr:=hB.trans (Y.mono hB.size);have d1:(x==-1)=false:=by simpa using h1
     by_cases h3:x<0
     ·
      have d2:decide (x<0)=true:=by simpa using h3
      clear h2 h3 h1;go_wp2;go_ret2;exact⟨fun ws h=>(by rw [HN.out] at h;cases h),fun _=>rfl,o⟩
     ·
      have d2:decide (x<0)=false:=by simpa using h3
      by_cases h4:(n:Int)<=x
      ·
       have d3:decide ((n:Int)<=x)=true:=by simpa using h4
       clear h2 h3 h1 h4;go_wp2;go_ret2;exact⟨fun ws h=>(by rw [HN.out] at h;cases h),fun _=>rfl,o⟩
      ·
       have d3:decide ((n:Int)<=x)=false:=by simpa using h4
       by_cases h5:i=0
       ·
        have d4:((i:Int)==0)=true:=by simpa using h5
        clear h2 h3 h1 h4 h5;go_wp2;go_ret2;exact⟨fun ws h=>(by rw [HN.out] at h;cases h),fun _=>rfl,o⟩
       ·
        have d4:((i:Int)==0)=false:=by simpa using h5
        obtain⟨Z,rfl⟩:∃Z:Nat,x=Z:=⟨x.toNat,by omega⟩;have am:Z<n:=by omega
        have I:Z<l.length:=by omega
        have aj:l[Z]≠0:=fun e=>h2 ⟨by omega,by omega,h5,by rw [axs,ay4 I];exact e⟩;obtain⟨y,C⟩:∃y,l[Z]=y:=⟨_,rfl⟩;rw [C] at aj;have cq:wr.cell? ⟨q,Z,none⟩=some (.int .i64 y):=by
         rw [cell_of_row wr q Z _ _ _ hI];simp [I,C]
        have d5:(y != 0)=true:=by simpa using aj
        have i2:(0:Int)<=(Z:Int):=by omega
        have i3:(Z:Int)<(n:Int):=by omega
        clear h2 h3 h1 h4 C;go_wp2;go_ret2;exact⟨fun ws h=>(by rw [HN.out] at h;cases h),fun _=>rfl,o⟩
  ·
   obtain rfl:i=n:=by omega
   have aF:decide ((i:Int)<i)=false:=by simp
   have am:k<=i:=by have:=HC.out;have:=List.countP_le_length (p:=fun x:Int=>x != 0) (l:=l);omega
   have b1:(0:Int)<=(k:Int):=by omega
   have aZ:(k:Int)<=(i:Int):=by omega
   have ad:Hid (nuO T J=ajF J l k):=by
    unfold Hid nuO;have h7:=hT.wrd.1;dsimp only at h7;rw [hn,h7,HS.out,az8,axs]
   have H:Below w.heap.size w wr:=hB.trans (Y.mono hB.size);have az:q<wr.heap.size:=(awU.1 hI).1;obtain⟨ag,a8,aW,_,a1⟩:=hR.ex;have aC:g<w.heap.size:=(awU.1 a8).1;have ac:wr.heap[g]?=_:=(H.block g aC).trans a8;have ap:g<wr.heap.size:=(awU.1 ac).1;have au:=ax3 a1;have HI:=ax3 hI;have aO:=ax3 ac;clear a1 hI ac a8;obtain⟨i0,hi,a7,B,a6⟩:=info_parts ar8;obtain⟨V2,aH⟩:∃V,V=wr:=⟨_,rfl⟩;subst aH;go_wp2
   go_loopw [10,12,56] (fun av _ a2 wq=>∃(j:Nat) (vs:List Sv) (r:List (List Int)),j<=k/\a2=.int .i64 j/\wq.ownsRow V2.heap.size 32 1 av j (vs.map svV)/\vs.length=j/\Hid (ajF J l j=some r)/\Hid (∀(i:Nat) (v:Sv) (x:List Int),vs[i]?=some v->r[i]?=some x->Bys V2 v.1 v.2.1 x/\v.2.1<=v.2.2)/\Below V2.heap.size V2 wq) (fun _ _ a2 _=>k-(intOf a2).toNat)
   case atStart=>exact⟨0,[],[],axh _,rfl,ayy _ _ _ _,rfl,rfl,(by intro i v x h;simp at h),axf _ _⟩
   case round=>
    obtain⟨j,vs,r,b3,rfl,D,aa,HW,af,U⟩:=hrel
    by_cases b2:j<k
    ·
     have aE:decide ((j:Int)<k)=true:=by simp;omega
     have ao:j<l.length:=by omega
     obtain⟨y,C⟩:∃y,l[j]?=some y:=⟨l[j],by simp [ao]⟩;have aV:=HE.out y (ay9 C);have cj:wr.cell? ⟨q,j,none⟩=some (.int .i64 y):=by
      rw [cell_of_row wr q j _ _ _ ((U.block q az).trans HI.out)];simp [C]
     have i2:(0:Int)<=(j:Int):=by omega
     have i3:(j:Int)<(k:Int):=by omega
     have aU:((j:Nat):Int).toNat=j:=by simp
     by_cases A:y=0
     ·
      subst A;have HZ:Hid (nuO T J=none):=by
       rw [Hid,ad.out];refine ape (i:=j+1) ?_ k (by omega);unfold ajF;rw [HW.out,az8,C];simp
      clear C;go_wp2;go_ret2;exact⟨fun ws h=>(by rw [HZ.out] at h;cases h),fun _=>rfl,H.trans (U.mono H.size)⟩
     ·
      have d1:(y==0)=false:=by simpa using A
      obtain⟨N,rfl⟩:∃N:Nat,y=N:=⟨y.toNat,by omega⟩;have aT:N<i:=by omega
      have ah:N<J.length:=by omega
      obtain⟨x,X⟩:∃x,J[N]?=some x:=⟨J[N],by simp [ah]⟩;obtain⟨⟨va,vn,vc⟩,hv⟩:∃v,ag[N]?=some v:=⟨ag[N]'(by omega),by simp⟩;have HV:=au.out N _ _ hv X;have cg:wr.cell? ⟨g,N,none⟩=some (.slice va vn vc):=by
       rw [cell_of_row wr g N _ _ _ ((U.block g ap).trans aO.out)];simp [hv,svV]
      have aN:Hid (ajF J l (j+1)=some (r++[x])):=by
       unfold Hid ajF;rw [HW.out,az8,C];dsimp only;rw [if_neg A,axs,X]
       rfl
      have aP:Hid (∀(i:Nat) (v:Sv) (x1:List Int),(vs++[((va,vn,vc):Sv)])[i]?=some v->(r++[x])[i]?=some x1->Bys V2 v.1 v.2.1 x1/\v.2.1<=v.2.2):=
       apM (by rw [aa,ad0 HW.out]) af.out ⟨HV.1.below H,HV.2⟩
      have ai:Hid ((vs++[((va,vn,vc):Sv)]).length=j+1):=by simp [Hid,aa]
      have i4:(0:Int)<=(N:Int):=by omega
      have i5:(N:Int)<(i:Int):=by omega
      have ay:=U.size;clear C X hv HV A
      go_wp2_with (at_builtin;refine wpList_append_own _ rfl _ _ 22 rfl V2.heap.size 32 i0 (.slice none 0 0) 1 24 underlying22 hi a7 B a6 rfl (by decide) _ _ _ rfl (D.alloc _) ⟨wr.heap.size,0,none⟩ 1 1 [svV (va,vn,vc)] rfl rfl (ab7 _ _ (by simp)) (by simp [Value.oneCell']) (by unfold maxLen;omega) (by omega) (by simp;omega) ?_;intro v' w6 ab aD aS)
      have aK:Below V2.heap.size V2 w6:=(U.alloc ay _).grown aD (by simp;omega) (fun k e=>(D.lt k e).1)
      go_roundw
      case rel=>exact⟨j+1,_,_,by omega,by go_num,(by simpa using ab),ai,aN,aP,aK⟩
      case measure=>simp [intOf];omega
    ·
     obtain rfl:j=k:=by omega
     have aE:decide ((j:Int)<j)=false:=by simp
     have ar:=ax3 (ad0 HW.out);obtain⟨va,vc,rfl,aw,ax⟩:=aaC (enc:=svV) D;go_wp2;go_ret2;refine⟨fun ws h=>?_,fun h=>?_,H.trans (U.mono H.size)⟩
     · rw [ad.out,HW.out] at h;obtain rfl:=awV h;rw [ar.out];exact⟨va,vc,rfl,⟨vs,ax,by rw [aa,ar.out],fun i v x hv X=>⟨(af.out i v x hv X).1.below U,(af.out i v x hv X).2⟩⟩,aw⟩
     · rw [ad.out,HW.out] at h;cases h
structure awt (W:World)(g:Nat)(t:TV)(sp ws:List (List Int)):Prop where
 ex:∃(sa:Option Addr) (sc:Nat) (wa:Option Addr) (wc:Nat),W.heap[g]?=some (.cells #[.slice t.ua t.un t.uc,.slice t.da t.dn t.dc,.slice t.xa t.xn t.xc,.slice t.ba t.bn t.bc,.slice sa sp.length sc,.slice wa ws.length wc] 378 (0,0))/\Wds W sa sp.length sp/\Wds W wa ws.length ws/\sp.length<=sc/\ws.length<=wc
theorem adj.wds {g n:Nat}{l:List (List Int)}{W:World}(h:adj g n l W)(X:l.length=n):Wds W (some ⟨g,0,none⟩) n l:=by
 obtain⟨Z,h1,h2,h3,h4⟩:=h.ex;refine⟨Z,⟨h2,.inr ⟨g,0,rfl,(awU.1 h1).1,fun j x Y=>?_⟩⟩,by omega,h4⟩;rw [cell_of_row W g (0+j) _ _ _ h1];simp [Y]
theorem adj.below {g n:Nat}{l:List (List Int)}{W V:World}(h:adj g n l W)(X:Below W.heap.size W V):adj g n l V:=by
 obtain⟨U,h1,h2,h3,h4⟩:=h.ex;exact⟨U,(X.block g (awU.1 h1).1).trans h1,h2,h3,fun i v x Y Z=>⟨(h4 i v x Y Z).1.below X,(h4 i v x Y Z).2⟩⟩
theorem avi {T:aaN}{Z:List (List Int)}(h:spO T=some Z):Z.length=T.up.length/\T.up.length<=400/\T.wrd.length=T.up.length/\∀x∈Z,x.length<400:=by
 unfold spO at h
 split at h
 ·
  rename_i Y
  refine⟨acR h,Y.2.1,Y.2.2.2.2,fun x X=>?_⟩;have:=am8 h x X;omega
 · cases h
theorem amC {Y:List (List Int)}{l:List Int}:∀{i:Nat} {r:List (List Int)},ajF Y l i=some r->∀x∈r,x∈Y
 | 0,r,h=>by unfold ajF at h;obtain rfl:=awV h;simp
 | i+1,r,h=>by
  unfold ajF at h;obtain⟨U,h0,h⟩:=az5.1 h;have X:=amC h0
  split at h
  ·
   split at h
   · cases h
   ·
    obtain⟨p,V,rfl⟩:=ayw.1 h;intro x Z
    rcases ayd.1 Z with Z | Z
    · exact X x Z
    · rw [ayp] at Z;subst Z;exact ay9 V
  · cases h
theorem aqz {T:aaN}{n:Nat}:∀{i:Nat} {s:List Int×Int},aiI T n i=some s->s.2<=i
 | 0,s,h=>by simp [aiI] at h;simp [<-h]
 | i+1,s,h=>by
  unfold aiI at h;obtain⟨Z,h0,h⟩:=az5.1 h;have Y:=aqz h0
  split at h
  ·
   split at h
   · obtain rfl:=awV h;omega
   ·
    split at h
    · cases h
    · obtain rfl:=awV h;dsimp only;omega
  · cases h
theorem avr {T:aaN}{Z ws:List (List Int)}(h:nuO T Z=some ws):ws.length<=T.wrd.length/\∀x∈ws,x∈Z:=by
 unfold nuO at h;obtain⟨s,h0,h⟩:=az5.1 h;have:=aqz h0;have:=ad0 h;exact⟨by omega,amC h⟩
theorem auf {fold:Bool}{ws:List (List Int)}{m M:Nat}(h1:ws.length<=m)(h2:∀x∈ws,x.length<=M):(abo fold ws).length<=m*M:=by
 refine awT ?_ (azg M h1);clear h1
 revert h2
 refine acq (P:=fun ws=>(∀x∈ws,x.length<=M)->(abo fold ws).length<=ws.length*M) (by simp [abo]) (fun l x Z h=>?_) ws;have:=Z (fun y Y=>h y (by simp [Y]));have:=h x (by simp);rw [ah1,List.length_append,abM,aas,List.length_append,aza,Nat.add_mul];omega
theorem an3 (t:TV)(T:aaN)(w:World)(hT:Tri w t T)(hb:t.un<=140737488351232) :
  Calls ZP 252 #[.agg t.cells] w fun e w'=>(∀N ws,abI T=some (N,ws)->∃g,e=.returned (.tuple #[.pointer (some ⟨g,0,none⟩),.bool true])/\awt w' g t N ws/\w.heap.size<=g)/\(abI T=none->e=.returned (.tuple #[.pointer none,.bool false]))/\Below w.heap.size w w':=by
 have au:=ax3 hT;obtain⟨ua,un,uc,da,dn,dc,xa,xn,xc,ba,bn,bc⟩:=t;dsimp only at hb;obtain⟨W,hW⟩:∃W,W=w.alloc (.cells #[.slice ua un uc,.slice da dn dc,.slice xa xn xc,.slice ba bn bc] 150):=⟨_,rfl⟩;have hB:Below w.heap.size w W:=by rw [hW];exact aa1 _ _
 have hO:Bx w.heap.size [.cells #[.slice ua un uc,.slice da dn dc,.slice xa xn xc,.slice ba bn bc] 150] W:=by rw [hW];exact (Bx.nil _ w).snoc _ rfl
 have aa:=hT.below hB;have cells:∀V,Below W.heap.size W V->V.cell? ⟨w.heap.size,0,none⟩=some (.slice ua un uc)/\V.cell? ⟨w.heap.size,1,none⟩=some (.slice da dn dc)/\V.cell? ⟨w.heap.size,2,none⟩=some (.slice xa xn xc)/\V.cell? ⟨w.heap.size,3,none⟩=some (.slice ba bn bc):=fun V hV=>by
  have h:=hO.below hV;exact⟨h.cell (i:=0) rfl rfl,h.cell (i:=0) rfl rfl,h.cell (i:=0) rfl rfl,h.cell (i:=0) rfl rfl⟩
 have HC:=ax3 cells;clear cells hO;obtain⟨c0,c1,c2,c3⟩:=HC.out W (axf _ _);have k1:=ax3 (ar3 _ T W aa hb);go_enter func252,ntmps252;go_upto_region 1 with fail
 rw [<-hW];clear hW
 go_wp2_with fail
 refine k1.out.mono ?_;rintro e w1 ⟨hs,hn,C⟩
 cases Z:spO T with
 | none=>
  obtain rfl:=hn Z;have A:Hid (abI T=none):=by unfold Hid abI;rw [Z];rfl
  clear hs hn Z;go_wp2;go_ret2;exact⟨fun N ws h=>(by rw [A.out] at h;cases h),fun _=>rfl,hB.trans (C.mono hB.size)⟩
 | some N=>
  obtain⟨g,rfl,hg,hR⟩:=hs N Z;obtain⟨o1,o2,o3,o4⟩:=avi Z;have ah:=ax3 Z;clear hs hn Z c0 c1 c2 c3;have ar:T.up.length=un:=hT.up.1;have aq:T.wrd.length=xn:=hT.wrd.1;obtain⟨n,a7⟩:∃n,N.length=n:=⟨_,rfl⟩;rw [a7] at hR ⊢;obtain⟨c0,c1,c2,c3⟩:=HC.out w1 C;have al:=aa.below C;have k2:=ax3 (alC _ T g n N w1 al hR a7 (by omega) (by show xn=n;omega))
  go_wp2_with fail
  refine k2.out.mono ?_;rintro e w2 ⟨hs,hn,a8⟩;have J:Below W.heap.size W w2:=C.trans (a8.mono C.size)
  cases Y:nuO T N with
  | none=>
   obtain rfl:=hn Y;have A:Hid (abI T=none):=by unfold Hid abI;rw [ah.out,az8,Y];rfl
   clear hs hn Y;go_wp2;go_ret2;exact⟨fun N ws h=>(by rw [A.out] at h;cases h),fun _=>rfl,hB.trans (J.mono hB.size)⟩
  | some ws=>
   obtain⟨v,c,rfl,s,ab⟩:=hs ws Y;obtain⟨p1,p2⟩:=avr Y;have am:=ax3 Y;clear hs hn Y c0 c1 c2 c3;obtain⟨c0,c1,c2,c3⟩:=HC.out w2 J;have aj:ws.length<=400:=by omega
   have a6:∀x∈ws,x.length<=400:=fun x hx=>axd (o4 x (p2 x hx));have ac:(abo false ws).length<=1000000:=awT (auf aj a6) (by omega);obtain⟨m,hm⟩:∃m,ws.length=m:=⟨_,rfl⟩;rw [hm] at s ab ⊢;have H:Hid (abI T=if (aan false ws&&eqT (aa5 ws) T)=true then some (N,ws) else none):=by unfold Hid abI;rw [ah.out,az8,am.out,az8]
   cases hr:aan false ws with
   | false=>
    have k3:=ax3 (ati false v m c ws w2 s (by omega) (fun x hx=>by have:=a6 x hx;omega) ac hr);have A:Hid (abI T=none):=by unfold Hid;rw [H.out,hr];rfl
    clear hr
    go_wp2_with fail
    refine k3.out.mono ?_;rintro e U ⟨rfl,D⟩;have j:Below W.heap.size W U:=J.trans (D.mono J.size);go_wp2;go_ret2;have X:Below w.heap.size w U:=hB.trans (j.mono hB.size);exact⟨fun N ws h=>(by rw [A.out] at h;cases h),fun _=>rfl,X.alloc X.size _⟩
   | true=>
    have k3:=ax3 (ahg false v m c ws w2 s (by omega) (fun x hx=>by have:=a6 x hx;omega) ac hr);have nn:=acW hr;have ai:=ax3 hr;clear hr
    go_wp2_with fail
    refine k3.out.mono ?_;rintro e U ⟨u,rfl,hU,D⟩;have j:Below W.heap.size W U:=J.trans (D.mono J.size);have ak:u.un<=400/\u.dn<=400/\u.xn<=400/\u.bn<=400:=by
     obtain⟨l1,l2,l3,l4⟩:=ak0 (ws:=ws);have:=hU.up.1;have:=hU.dep.1;have:=hU.wrd.1;have:=hU.byt.1.1;omega
    obtain⟨va,vn,vc,ea,en,ec,ya,yn,yc,fa,fn,fc⟩:=u;dsimp only at ak;go_upto_region 8 with fail
    obtain⟨I,z⟩:∃I,I=U.alloc (.cells #[.slice va vn vc,.slice ea en ec,.slice ya yn yc,.slice fa fn fc] 150):=⟨_,rfl⟩;have y:Below U.heap.size U I:=by rw [z];exact aa1 _ _
    have B:Bx U.heap.size [.cells #[.slice va vn vc,.slice ea en ec,.slice ya yn yc,.slice fa fn fc] 150] I:=by rw [z];exact (Bx.nil _ U).snoc _ rfl
    rw [<-z];clear z;have o:Below W.heap.size W I:=j.trans (y.mono j.size);have q0:I.cell? ⟨U.heap.size,0,none⟩=some (.slice va vn vc):=B.cell (i:=0) rfl rfl;have q1:I.cell? ⟨U.heap.size,1,none⟩=some (.slice ea en ec):=B.cell (i:=0) rfl rfl;have q2:I.cell? ⟨U.heap.size,2,none⟩=some (.slice ya yn yc):=B.cell (i:=0) rfl rfl;have q3:I.cell? ⟨U.heap.size,3,none⟩=some (.slice fa fn fc):=B.cell (i:=0) rfl rfl;obtain⟨c0,c1,c2,c3⟩:=HC.out I o;have k4:=ax3 (arr _ _ (aa5 ws) T I (hU.below y) (aa.below o) (by dsimp only;omega));clear B hU
    go_wp2_with fail
    refine k4.out.mono ?_;rintro e w5 ⟨rfl,ae⟩;have ag:Below W.heap.size W w5:=o.trans (ae.mono o.size);have X:Below w.heap.size w w5:=hB.trans (ag.mono hB.size);clear c0 c1 c2 c3 q0 q1 q2 q3;obtain⟨c0,c1,c2,c3⟩:=HC.out w5 ag
    cases he:eqT (aa5 ws) T with
    | false=>
     have A:Hid (abI T=none):=by unfold Hid;rw [H.out,ai.out,he];rfl
     clear he;go_wp2;go_ret2;exact⟨fun N ws h=>(by rw [A.out] at h;cases h),fun _=>rfl,X⟩
    | true=>
     have A:Hid (abI T=some (N,ws)):=by unfold Hid;rw [H.out,ai.out,he];rfl
     clear he;have a1:=ax3 a7;have HM:=ax3 hm;go_wp2;go_ret2;refine⟨fun ap ao h=>?_,fun h=>(by rw [A.out] at h;cases h),X.alloc X.size _⟩;rw [A.out] at h
     injection h with h
     injection h with e1 e2
     subst e1 e2;have ad:Below w5.heap.size w5 (w5.alloc (.cells #[.slice ua un uc,.slice da dn dc,.slice xa xn xc,.slice ba bn bc,.slice (some ⟨g,0,none⟩) n n,.slice v m c] 378)):=aa1 _ _;have a2:Below w2.heap.size w2 w5:=D.trans ((y.trans (ae.mono y.size)).mono D.size);have af:Below w1.heap.size w1 w5:=a8.trans (a2.mono a8.size);refine⟨_,rfl,⟨_,n,_,c,by rw [a1.out,HM.out];exact axg _ _,?_,?_,by rw [a1.out];exact axe _,by rw [HM.out];exact ab⟩,X.size⟩
     · rw [a1.out];exact ((hR.below af).wds a1.out).below ad
     · rw [HM.out];exact (s.below a2).below ad
theorem at4 (t:TV)(T:aaN)(Z ws:List (List Int))(w:World)(V:Tri w t T)(X:t.un<=140737488351232)(Y:abI T=some (Z,ws)) :
  Calls ZP 252 #[.agg t.cells] w fun e w'=>∃g,e=.returned (.tuple #[.pointer (some ⟨g,0,none⟩),.bool true])/\awt w' g t Z ws/\Below w.heap.size w w':=
 (an3 t T w V X).mono fun e w' ⟨h1,_,h3⟩=>(h1 Z ws Y).elim fun g ⟨N,U,_⟩=>⟨g,N,U,h3⟩
theorem auW (t:TV)(T:aaN)(w:World)(X:Tri w t T)(Y:t.un<=140737488351232)(Z:abI T=none) :
  Calls ZP 252 #[.agg t.cells] w fun e w'=>e=.returned (.tuple #[.pointer none,.bool false])/\Below w.heap.size w w':=
 (an3 t T w X Y).mono fun e w' ⟨_,h2,h3⟩=>⟨h2 Z,h3⟩
end Go.Proofs.YtaamacoicojhnaaGreat
