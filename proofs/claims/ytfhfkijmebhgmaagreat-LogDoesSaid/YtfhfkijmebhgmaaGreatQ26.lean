/- Texts of the claim, joined. -/
import Derived.Test.YtfhfkijmebhgmaaGreatQ25
set_option maxHeartbeats 20000000
set_option maxRecDepth 100000
namespace Wh
open Go Go.RowKit Go.Shelf Go.Proofs Tryz
attribute [local go_sem] au dQ dI dX
theorem jhg (w:World) (o:Int) (p:Plan) (s:State) (Ab:Option Addr) (cb:Nat) (As:Option Addr) (cs:Nat) (A0:Option Addr) (c0:Nat) (A1:Option Addr) (c1:Nat) (A2:Option Addr) (c2:Nat) (A3:Option Addr) (c3:Nat) (A4:Option Addr) (c4:Nat) (A5:Option Addr) (c5:Nat) (A6:Option Addr) (c6:Nat):
  ∃ W0:World,(((w.alloc (.cells #[.slice Ab p.aH.length cb,.slice As p.sizes.length cs] 25)).alloc (.cells #[.slice A0 s.on.length c0,.slice A1 s.orders.length c1,.slice A2 s.holds.length c2,.slice A3 s.moves.length c3,.slice A4 s.inn.length c4,.slice A5 s.out.length c5,.slice A6 s.fixed.length c6] 31)).alloc (.cells #[.int .i64 o] 3)).alloc (.cells #[.slice none 0 0,.slice none 0 0,.slice none 0 0,.slice none 0 0,.slice none 0 0,.slice none 0 0,.slice none 0 0] 31)=W0∧Below w.heap.size w W0∧w.heap.size+1<W0.heap.size∧w.heap.size<W0.heap.size∧Hid (W0.heap.size=w.heap.size+1+1+1+1)∧
   Hid (∀ W,Below W0.heap.size W0 W→(W.cell? ⟨w.heap.size,0,none⟩=some (.slice Ab p.aH.length cb)∧W.cell? ⟨w.heap.size,1,none⟩=some (.slice As p.sizes.length cs))∧W.cell? ⟨w.heap.size+1,0,none⟩=some (.slice A0 s.on.length c0)∧W.cell? ⟨w.heap.size+1,1,none⟩=some (.slice A1 s.orders.length c1)∧W.cell? ⟨w.heap.size+1,2,none⟩=some (.slice A2 s.holds.length c2)∧W.cell? ⟨w.heap.size+1,3,none⟩=some (.slice A3 s.moves.length c3)∧W.cell? ⟨w.heap.size+1,4,none⟩=some (.slice A4 s.inn.length c4)∧W.cell? ⟨w.heap.size+1,5,none⟩=some (.slice A5 s.out.length c5)∧W.cell? ⟨w.heap.size+1,6,none⟩=some (.slice A6 s.fixed.length c6)∧w.heap.size+1<W.heap.size∧w.heap.size<W.heap.size)∧
   Hid (∀ W,Below W0.heap.size W0 W→W.cell? ⟨w.heap.size+1+1,0,none⟩=some (.int .i64 o)∧w.heap.size+1+1<W.heap.size)∧
   Hid (∀ W,Below W0.heap.size W0 W→dw W (w.heap.size+1+1+1) 31 [.slice none 0 0,.slice none 0 0,.slice none 0 0,.slice none 0 0,.slice none 0 0,.slice none 0 0,.slice none 0 0]):=by
 obtain ⟨W1,e1,b1,s1,s2,s3,hK⟩:=uS w p s Ab cb As cs A0 c0 A1 c1 A2 c2 A3 c3 A4 c4 A5 c5 A6 c6;rw [e1];have e3:W1.heap.size=w.heap.size+1+1:=s3;have ha0:Below W1.heap.size W1 (W1.alloc (.cells #[.int .i64 o] 3)):=(aj _ _).alloc (aA _) _;have h0:dw (W1.alloc (.cells #[.int .i64 o] 3)) W1.heap.size 3 [.int .i64 o]:=dw.new _ _ _;generalize hW2:W1.alloc (.cells #[.int .i64 o] 3)=W2 at ha0 h0 ⊢
 have e4:W2.heap.size=w.heap.size+1+1+1:=by rw [← hW2,fP,e3]
 have ha:Below W2.heap.size W2 (W2.alloc (.cells #[.slice none 0 0,.slice none 0 0,.slice none 0 0,.slice none 0 0,.slice none 0 0,.slice none 0 0,.slice none 0 0] 31)):=(aj _ _).alloc (aA _) _;have h1:dw (W2.alloc (.cells #[.slice none 0 0,.slice none 0 0,.slice none 0 0,.slice none 0 0,.slice none 0 0,.slice none 0 0,.slice none 0 0] 31)) W2.heap.size 31 [.slice none 0 0,.slice none 0 0,.slice none 0 0,.slice none 0 0,.slice none 0 0,.slice none 0 0,.slice none 0 0]:=dw.new _ _ _;have h2:dw (W2.alloc (.cells #[.slice none 0 0,.slice none 0 0,.slice none 0 0,.slice none 0 0,.slice none 0 0,.slice none 0 0,.slice none 0 0] 31)) W1.heap.size 3 [.int .i64 o]:=h0.below ha h0.lt;have h12:=ha0.trans (ha.mono ha0.size);rw [e3] at h2
 rw [e4] at h1
 refine ⟨_,rfl,b1.trans (h12.mono b1.size),by simp [e4]<;>omega,by simp [e4]<;>omega,Lib.hid (by simp [e4]),Lib.hid fun W hW=>?_,Lib.hid fun W hW=>?_,Lib.hid fun W hW=>h1.below hW (by simp [e4])⟩
 ·exact Gn hK W (h12.trans (hW.mono h12.size))
 ·have h3:=h2.below hW (by simp [e4]<;>omega)
  exact ⟨h3.cell rfl,h3.lt⟩
theorem jU {a b:Option Nat} (h:a=none∨a≠b):∀ k,a=some k→¬ b=some k:=by
 rintro k rfl h2;rcases h with h|h
 ·cases h
 ·exact h h2.symm
theorem aO.Us {w w':World} {base:Nat} {V:SV} {s:State} (h:aO w base V s) (hs:Step (fun q=>V.holds.ownBlock=some q) w w') {v:Value} {l:List Hold} (hv:Own bM 4 46 w' base v l):aO w' base {V with holds:=v} {s with holds:=l}:=
 ⟨h.on.step hs (jU (h.on.apart h.holds (by decide))),h.rlen,fun b hb=>(h.row b hb).step hs (jU ((h.row b hb).apart h.holds (by decide))),h.orders.step hs (jU (h.orders.apart h.holds (by decide))),h.llen,fun o ho=>(h.line o ho).step hs (jU ((h.line o ho).apart h.holds (by decide))),
  hv,h.moves.step hs (jU (h.moves.apart h.holds (by decide))),h.inn.step hs (jU (h.inn.apart h.holds (by decide))),h.out.step hs (jU (h.out.apart h.holds (by decide))),h.fixed.step hs (jU (h.fixed.apart h.holds (by decide))),h.apart,h.oQ⟩
theorem jiZ (x:Hold) (o:Int) (W:World) (B:Nat) (h0:W.cell? ⟨B,0,none⟩=some (.int .i64 o)) (hB:B<W.heap.size):
  Calls prog 100 (#[kG x]++#[.pointer (some ⟨B,0,none⟩)]) W fun e W'=>e=.returned (.bool (x.order==o))∧Below W.heap.size W W':=by
 have hb0:Below W.heap.size W (W.alloc (.cells #[.int .i64 (x).order,.int .i64 (x).line,.int .i64 (x).bin,.int .i64 (x).n] 46)):=(aj _ _).alloc (aA _) _;change Calls prog 100 #[kG x,.pointer (some ⟨B,0,none⟩)] W _;unfold kG;go_enter func100,ntmps100
 go_wp2_with fail;go_ret
 exact ⟨rfl,hb0⟩
theorem jdY:Enters prog 100:=enters_of func100 (by kernel_rfl) rfl
theorem jek (w:World) (v vs:Value) (p:Plan) (s:State) (o:Int) (hp:fZ w w.heap.size v p) (hv:fE w w.heap.size vs s):
  Calls prog 47 #[v,vs,.int .i64 o] w (gU (cancel p s o) w):=by
 obtain ⟨Ab,cb,As,cs,rfl,hP',hBn,hSz,hlb,hls⟩:=kN hp;obtain ⟨A0,c0,A1,c1,A2,c2,A3,c3,A4,c4,A5,c5,A6,c6,rfl,hV,hN,hO,hH,hM,hI,hU,hX,hl0,hl1,hl2,hl3,hl4,hl5,CW⟩:=iG hv;go_enter func47,ntmps47
 go_wp2_with fail;obtain ⟨W0,hW0,hb0,hsz0,hsz1,hsE,hK,hJ,hR⟩:=jhg w o p s Ab cb As cs A0 c0 A1 c1 A2 c2 A3 c3 A4 c4 A5 c5 A6 c6;rw [hW0];clear hW0;obtain ⟨⟨y0,y1⟩,x0,x1,x2,x3,x4,x5,x6,aV,aW⟩:=hK.out W0 (aj W0.heap.size W0);go_wp2_with fail;clear y0 y1 x0 x1 x2 x3 x4 x5 x6 aV aW;refine (G8 _ _ _ p s (hP'.out _ hb0) (hV.out _ hb0)).mono ?_
 rintro e W1 ⟨rfl,h1⟩;have hB1:=hb0.trans (h1.mono hb0.size);obtain ⟨⟨y0,y1⟩,x0,x1,x2,x3,x4,x5,x6,aV,aW⟩:=hK.out W1 (h1);obtain ⟨i0,i1⟩:=hJ.out W1 h1;by_cases hc:checkState p s=0
 ·have hc':=Lib.hid hc;have hsn:=Lib.hid (dV.1 hc).1;have h4:=hsn.out.jh;rw [hc];clear hc;by_cases q0:o<0
  ·have hfin:=Lib.hid (IJ hc'.out (.inl q0));have aX:=hR.out _ h1;go_wp2_with (refine aK (.tmp 6) (.tmp 29) aP aP rfl aX rfl rfl (fun w9 aN dh=>?_))
   have aQ:=Below.bG hB1 dh;go_wp2_with fail;exact dn results47 aN rfl rfl (dF hfin.out aQ)
  by_cases q1:(s.orders.length:Int)≤o
  ·have hfin:=Lib.hid (IJ hc'.out (.inr q1));have q0':decide (o<0)=false:=by simp;omega
   have aX:=hR.out _ h1;go_wp2_with (refine aK (.tmp 6) (.tmp 29) aP aP rfl aX rfl rfl (fun w9 aN dh=>?_))
   have aQ:=Below.bG hB1 dh;go_wp2_with fail;exact dn results47 aN rfl rfl (dF hfin.out aQ)
  obtain ⟨i,rfl⟩:∃ i:Nat,o=i:=⟨o.toNat,by omega⟩
  have hi:i<s.orders.length:=by omega
  have hi':(i:Int)<s.orders.length:=by omega
  have q0':decide ((i:Int)<0)=false:=by simp
  have q1':decide ((s.orders.length:Int)≤i)=false:=by simp;omega
  clear q0 q1;obtain ⟨Al,cl,ol,ll,d0,d1,hsl⟩:=(hO.out W1 hB1).order hi;change W1.cell? _=some (Value.int IntKind.i64 (s.order i).kind) at d0
  by_cases hk:(s.order i).kind=2
  ·have hfin:=Lib.hid (Ox hc'.out hi hk);rw [hk] at d0
   clear hk;have aX:=hR.out _ h1;go_wp2_with (refine aK (.tmp 6) (.tmp 37) aP aP rfl aX rfl rfl (fun w9 aN dh=>?_))
   have aQ:=Below.bG hB1 dh;go_wp2_with fail;exact dn results47 aN rfl rfl (dF hfin.out aQ)
  ·have hfin:=Lib.hid (Vg hc'.out hi hk);have hq:((s.order i).kind==2)=false:=by simpa using hk
   clear hk;go_wp2_with fail;clear y0 y1 x0 x1 x2 x3 x4 x5 x6 aV aW;clear d0 d1 i0 i1 hsl hq;refine (Yg _ _ p s (hV.out _ hB1) hsn.out).mono ?_
   rintro e W5 ⟨_,rfl,⟨V5,rfl,qK⟩,h5⟩;have jc:=(qK).one;have nK:=pV (W5);go_wp2_with (refine aK (.tmp 9) (.tmp 39) aP V5 rfl nK rfl jc (fun w6 fH zO=>?_);refine aU ?_)
   unfold Hid;have jO:=jK zO;have lQ:=fH.lt;clear jc nK zO;have hx6:=Lib.hid (Bx.of fH (qK.below jO));have h06:=h1.trans ((h5.trans (jO.mono h5.size)).mono h1.size);have hle:w.heap.size≤W1.heap.size:=hB1.size;have hle0:W0.heap.size≤W1.heap.size:=h1.size;have qp:W1.heap.size≤W5.heap.size:=h5.size;clear fH qK jO h5 lQ h1 hB1;generalize W1.heap.size=base at hx6 hle hle0 qp
   generalize W5.heap.size=bx at hx6 qp ⊢
   obtain ⟨Ao,co,hvo⟩:=hx6.out.own.vW;have yt:=Lib.hid hvo;obtain ⟨Ah,ch,hvh⟩:=hx6.out.own.holds.isSlice;have c2:=hx6.out.cells.2.2.1;rw [hvh] at c2
   have hoh:=hx6.out.own.holds;rw [hvh] at hoh
   have jfx:=Lib.hid hvh;have jid:=Lib.hid hoh;clear hvo hvh hoh;go_wp2_with fail;clear c2;refine (Oo w6 base _ s.holds 100 #[.pointer (some ⟨w.heap.size+1+1,0,none⟩)] (fun x=>x.order==(i:Int)) jdY jid.out (by have:=jJ hsn.out.holds;omega) (fun k hk W hW=>by
    have h0W:=h06.trans (hW.below (B:=W0.heap.size) (fun q hq=>by
     have h9:=jid.out.size q hq;omega) h06.size)
    obtain ⟨j0,j1⟩:=hJ.out W h0W;exact jiZ _ _ W _ j0 j1)).mono ?_
   rintro e w7 ⟨v7,rfl,zN,uP,jnS⟩;obtain ⟨A7,c7,rfl⟩:=zN.isSlice;have hl7:∃ l7,(s.holds.filter fun x=>!(x.order==(i:Int)))=l7:=⟨_,rfl⟩
   obtain ⟨l7,hl7⟩:=hl7;rw [hl7] at zN jnS ⊢
   have jfF:Step (fun q=>V5.holds.ownBlock=some q) w6 w7:=by rw [jfx.out];exact uP
   have Xp:=hx6.out.own.Us jfF zN;have hb7:dN w7 bx V5:=jfF.blk hx6.out.kW.blk (jU (hx6.out.own.holds.iD hx6.out.kW.blk (by decide)) _ · rfl)
   have hfl:=Lib.hid (show l7=s.holds.filter fun h=>decide (h.order≠(i:Int)) by
    rw [← hl7];congr 1
    funext x
    by_cases hx:x.order=(i:Int)<;>simp [hx])
   have jdF:l7.length≤1000000:=by
    rw [← hl7];have:=yR (fun x=>!(x.order==(i:Int))) s.holds
    have:=jJ hsn.out.holds;omega
   have h07:=Lib.hid (h06.trans (uP.below (B:=W0.heap.size) (fun q hq=>by
     have h9:=jid.out.size q hq;omega) h06.size))
   have joJ:=Lib.hid Xp;have jou:=Lib.hid hb7;clear zN jnS uP jfF Xp hb7 hx6 jid h06 hl7;go_wp2_with (refine zU rfl (.tmp 44) (.tmp 43) rfl rfl A7 l7.length c7 (V:=V5) (cs:=[]) (b:=bx) (by rw [mJ];exact jou.out.blk) joJ.out SN rfl rfl rfl (fun w8 EF qJ=>?_);refine aU ?_)
   unfold Hid;have ug:=h07.out.trans (qJ.below (B:=W0.heap.size) (fun q hq=>by omega) h07.out.size)
   obtain ⟨i0,i1⟩:=hJ.out w8 ug;have lN:=Lib.hid EF;obtain ⟨V8,hV8⟩:∃ V8:SV,{V5 with holds:=.slice A7 l7.length c7}=V8:=⟨_,rfl⟩
   rw [hV8] at lN
   have jnz:V8.orders=.slice Ao s.orders.length co:=by rw [← hV8];exact yt.out
   have UW:=Lib.hid jnz;clear EF qJ hV8 joJ jou h07 jnz yt jfx;obtain ⟨go,_,_,eo,-⟩:=lN.out.own.ay (o:=i) hi;rw [UW.out] at eo
   injection eo with eo e2 e3
   subst eo;clear e2 e3;obtain ⟨hgo,jdH,z0,z1⟩:=lN.out.own.iC (o:=i) hi UW.out;have c1:=lN.out.cells.2.1;rw [UW.out] at c1
   go_wp2_with (refine xQ rfl (.tmp 51) (.const (.int .i64 2)) rfl rfl (i:=i) (q:=2) lN.out hi UW.out rfl rfl (fun w9 qj mQ=>?_);refine aU ?_)
   unfold Hid;have qj:Bx w9 base bx 31 [] V8 (xC s l7 i 0):=by rw [← SH];exact qj
   have h09:=ug.trans (mQ.below (B:=W0.heap.size) (fun q hq=>by omega) ug.size)
   have sQ:=Lib.hid qj;clear mQ qj z0 z1 c1 lN ug i0 i1;have l13:=hsn.out.jX hi;obtain ⟨_,_,z0,z1⟩:=sQ.out.own.iC (o:=i) (by rw [ER];exact hi) UW.out
   obtain ⟨gl,cl,e1,hgl⟩:=sQ.out.own.tC (o:=i) (by rw [ER];exact hi) (by rw [wE hi];omega)
   rw [wE hi] at e1
   have e1':=Lib.hid e1;rw [e1] at z1
   clear e1 z0;go_wp2_with fail;clear z1;go_loopw [57,11,12] (fun j _ _ wr=>∃ k:Nat,k≤(s.order i).lines.length∧j=.int .i64 k∧Bx wr base bx 31 [] V8 (xC s l7 i k)∧Below W0.heap.size W0 wr) (fun j _ _ _=>(s.order i).lines.length - (intOf j).toNat)
   case atStart=>exact ⟨0,aT _,rfl,sQ.out,h09⟩
   case round=>
    clear sQ h09;obtain ⟨k,hkl,rfl,hx,h0⟩:=hrel;have hx':=Lib.hid hx;clear hx;by_cases hkt:k<(s.order i).lines.length
    ·have hki:(k:Int)<((s.order i).lines.length:Int):=by omega
     have hon:i<(xC s l7 i k).orders.length:=by rw [ER];exact hi
     have hkn:k<((xC s l7 i k).order i).lines.length:=by rw [wE hi];exact hkt
     obtain ⟨_,_,_,z1⟩:=hx'.out.own.iC hon UW.out;rw [e1'.out] at z1
     obtain ⟨TS,f0,f1,f2,f3⟩:=hx'.out.own.jV hon hkn e1'.out;rw [FW hi hkt] at f1 f2
     have hlr:=hsn.out.line hi hkt;have hwr:IntKind.i64.wrap ((s.line i k).want - (s.line i k).got)=(s.line i k).want - (s.line i k).got:=by rw [qU];omega
     have QZ:=Lib.hid hx'.out.drew;clear f0 f3 hlr;go_wp2_with fail;go_still_tail 12,(by kernel_rfl)
     change wpList _ _ _ _ _ wr.drew;refine qF rfl (.tmp 77) (.tmp 75) rfl rfl (j:=3) (y:={s.line i k with back:=(s.line i k).want - (s.line i k).got}) QZ.out hon hkn e1'.out (by decide) (by rw [FW hi hkt];rfl) rfl rfl (fun w9 qj mQ=>?_)
     refine gy ?_
     rw [SI hi hkt] at qj
     have h09:=h0.drew.trans (mQ.below (B:=W0.heap.size) (fun q hq=>by omega) h0.drew.size)
     have sQ:=Lib.hid qj;clear mQ qj z1 f1 f2 hx' QZ hon hkn hwr;go_wp2_with fail;go_roundw
     case rel=>exact ⟨k+1,by omega,by go_num,sQ.out,h09⟩
     case measure=>simp [intOf];omega
    ·obtain rfl:k=(s.order i).lines.length:=by omega
     have hB0:=hb0.trans (h0.mono hb0.size);have hx2:=Lib.hid (show Bx wr base bx 31 [] V8 (nO s i) by rw [← Vh,← hfl.out];exact hx'.out)
     clear hx';have aX:=hR.out _ h0;obtain ⟨b0,b1,b2,b3,b4,b5,b6⟩:=dN.cells hx2.out.kW;have eU:=aO.one hx2.out.own;go_wp2_with (refine aK (.tmp 6) (.tmp 79) aP V8 rfl aX rfl eU (fun w9 aN dh=>?_))
     have ng:=aO.keptBy hx2.out.own dh aX (by decide) (by decide) (by decide) (by decide) (by decide) (by decide)
     have aQ:=Below.bG hB0 dh;clear b0 b1 b2 b3 b4 b5 b6;go_wp2_with fail;exact dn results47 aN rfl rfl (wH hfin.out (ng.from_ hle) aQ)
 ·have hne:(checkState p s!=0)=true:=by simpa using hc
  have hfin:=Lib.hid (SG (o:=o) hc);clear hc;have aX:=hR.out _ h1;go_wp2_with (refine aK (.tmp 6) (.tmp 18) aP aP rfl aX rfl rfl (fun w9 aN dh=>?_))
  have aQ:=Below.bG hB1 dh;go_wp2_with fail;exact dn results47 aN rfl rfl (dF hfin.out aQ)
end Wh
namespace Wh
open Go Go.RowKit Go.Shelf Go.Proofs Tryz
attribute [local go_sem] au dQ dI dX
def jlT (B:Nat) (k:Nat) (w1 w2:World):Prop:=Below B w1 w2∧(k=0→∀ b V,dN w1 b V→dN w2 b V)∧(k=1→∀ base V s,aO w1 base V s→aO w2 base V s)
theorem jdx {w1 w2:World} {base i:Nat} {V:SV} {s:State} (ho:aO w1 base V s) (hi:i<s.orders.length) (hs:Step (fun j=>(V.line i).ownBlock=some j) w1 w2) (hB:base≤w1.heap.size):jlT base 0 w1 w2:=by
 refine ⟨hs.below (fun k hk=>((ho.line i hi).size k hk).1) hB,fun _ b V' hb=>hs.heap hb fun hk=>?_,fun h=>by cases h⟩
 obtain ⟨cur,hc⟩:=(ho.line i hi).block hk;have h2:w1.heap[b]?=_:=hb;rw [hc] at h2
 injection h2 with h2
 injection h2 with _ h2
 exact absurd h2 (by decide)
theorem wQ {n lo hi:Int} {b:Bool} (h:within n lo hi=b) (w:World):Calls prog 38 #[.int .i64 n,.int .i64 lo,.int .i64 hi] w fun e w'=>e=.returned (.bool b)∧w=w':=by
 have:=iw n lo hi w;rwa [h] at this
end Wh
namespace Wh
open Go Go.RowKit Go.Shelf Go.Proofs Tryz
attribute [local go_sem] au dQ dI dX
def Xn (s:State) (c g:Nat) (n:Int):State:={s with on:=setCell s.on c g (cell s.on c g - n)}
def pk2 (s:State) (c g:Nat) (n:Int):State:={Xn s c g n with out:=s.out.set g (aC s.out g+n)}
theorem je4 {s:State} {i j c g:Nat} {n:Int} (hg:(s.line i j).good.toNat=g):({pk2 s c g n with holds:=dA s.holds ⟨i,j,c,0⟩}:State)=preS s i j c n:=by subst hg;rfl
theorem jhL (w:World) (v vs:Value) (p:Plan) (s:State) (o k b n:Int) (hp:fZ w w.heap.size v p) (hv:fE w w.heap.size vs s):
  Calls prog 55 #[v,vs,.int .i64 o,.int .i64 k,.int .i64 b,.int .i64 n] w (gU (pick p s o k b n) w):=by
 obtain ⟨Ab,cb,As,cs,rfl,hP',hBn,hSz,hlb,hls⟩:=kN hp;obtain ⟨A0,c0,A1,c1,A2,c2,A3,c3,A4,c4,A5,c5,A6,c6,rfl,hV,hN,hO,hH,hM,hI,hU,hX,hl0,hl1,hl2,hl3,hl4,hl5,CW⟩:=iG hv;go_enter func55,ntmps55
 go_wp2_with fail;obtain ⟨W0,hW0,hb0,hsz0,hsz1,hsE,hK,hR⟩:=oH w p s Ab cb As cs A0 c0 A1 c1 A2 c2 A3 c3 A4 c4 A5 c5 A6 c6;rw [hW0];clear hW0;obtain ⟨⟨y0,y1⟩,x0,x1,x2,x3,x4,x5,x6,aV,aW⟩:=hK.out W0 (aj W0.heap.size W0);go_wp2_with fail;clear y0 y1 x0 x1 x2 x3 x4 x5 x6 aV aW;refine (qw _ _ _ p s (hP'.out _ hb0) (hV.out _ hb0)).mono ?_
 rintro e W1 ⟨rfl,h1⟩;have hB1:=hb0.trans (h1.mono hb0.size);obtain ⟨⟨y0,y1⟩,x0,x1,x2,x3,x4,x5,x6,aV,aW⟩:=hK.out W1 (h1);by_cases hc:checkState p s=0
 ·have hc':=Lib.hid hc;have hsn:=Lib.hid (dV.1 hc).1;rw [hc];clear hc;go_wp2_with fail;refine (VK _ _ s.holds o k b (hH.out _ hB1)).mono ?_
  rintro e w' ⟨rfl,rfl⟩;by_cases hk0:aF s.holds o k b=0
  ·have hfin:=Lib.hid (UD (n:=n) hc'.out hk0);rw [hk0];clear hk0;have aX:=hR.out _ h1;go_wp2_with (refine aK (.tmp 12) (.tmp 36) aP aP rfl aX rfl rfl (fun w9 aN dh=>?_))
   have aQ:=Below.bG hB1 dh;go_wp2_with fail;exact dn results55 aN rfl rfl (dF hfin.out aQ)
  have hkq:(aF s.holds o k b==0)=false:=by simpa using hk0
  cases g1:within n 0 (aF s.holds o k b)
  ·have hfin:=Lib.hid (J3 hc'.out hk0 (by have:=gY.1 g1;omega))
   clear hk0;go_wp2_with fail;refine (wQ g1 _).mono ?_
   rintro e w' ⟨rfl,rfl⟩;clear g1;have aX:=hR.out _ h1;go_wp2_with (refine aK (.tmp 12) (.tmp 41) aP aP rfl aX rfl rfl (fun w9 aN dh=>?_))
   have aQ:=Below.bG hB1 dh;go_wp2_with fail;exact dn results55 aN rfl rfl (dF hfin.out aQ)
  have g1':=within_iff.1 g1;obtain ⟨i,j,c,rfl,rfl,rfl,hi,hj,hcb,hh1,hh2,hpk⟩:=jcp hc'.out hk0 g1';have hpk':=Lib.hid hpk;have hg0:=(hsn.out.line hi hj).1;obtain ⟨g,hg⟩:∃ g:Nat,(s.line i j).good=(g:Int):=⟨(s.line i j).good.toNat,by omega⟩
  have hgt:(s.line i j).good.toNat=g:=by omega
  have WI:g<p.sizes.length:=by omega
  have hgo:g<s.out.length:=by rw [hsn.out.out.1];exact WI
  have jqy:(g:Int)<(s.out.length:Int):=by omega
  have o1:=hsn.out.out.2 WI;have hwo:IntKind.i64.wrap (aC s.out g+n)=aC s.out g+n:=bf _ (by omega)
  have hi':(i:Int)<s.orders.length:=by omega
  have hj':(j:Int)<((s.order i).lines.length:Int):=by omega
  obtain ⟨Al,cl,ol,ll,d0,d1,hsl⟩:=(hO.out W1 hB1).order hi;obtain ⟨ok2,l2,e0,e1,e2,e3⟩:=hsl.at_.line hj;change W1.cell? _=some (Value.int .i64 (s.line i j).good) at e0
  change W1.cell? _=some (Value.slice Al (s.order i).lines.length cl) at d1
  rw [hg] at e0
  obtain ⟨oi,li,ri⟩:=(hU.out W1 hB1).at_.int (i:=g) hgo;rw [hgt] at hpk'
  clear hk0 hpk d0 e1 e2 e3;by_cases hm:1048576<aC s.out g+n
  ·have hfin:=Lib.hid (show pick p s i j c n=(dJ,2) by rw [hpk'.out,ak hm])
   go_wp2_with fail;refine (wQ g1 _).mono ?_
   rintro e w' ⟨rfl,rfl⟩;clear g1 g1';have aX:=hR.out _ h1;go_wp2_with (refine aK (.tmp 12) (.tmp 60) aP aP rfl aX rfl rfl (fun w9 aN dh=>?_))
   have aQ:=Below.bG hB1 dh;go_wp2_with fail;exact dn results55 aN rfl rfl (dF hfin.out aQ)
  have hfin:=Lib.hid (show pick p s i j c n=(qx p s i j c n,0) by rw [hpk'.out,ah hm])
  have hF:=Lib.hid (show xH p s i j c n from ⟨hi,hj,hcb,hh1,g1'.1,g1'.2,by rw [hgt];omega⟩)
  go_wp2_with fail;refine (wQ g1 _).mono ?_
  rintro e w' ⟨rfl,rfl⟩;clear g1;go_wp2_with fail;clear y0 y1 x0 x1 x2 x3 x4 x5 x6 aV aW;clear d1 e0 hsl oi li ri ok2 l2 ol ll hkq hpk' hm;refine (vS _ _ p s (hV.out _ hB1) hsn.out).mono ?_
  rintro e W5 ⟨_,rfl,⟨V5,rfl,qK⟩,h5⟩;have jc:=(qK).one;have nK:=pV (W5);go_wp2_with (refine aK (.tmp 17) (.tmp 62) aP V5 rfl nK rfl jc (fun w6 fH zO=>?_);refine aU ?_)
  unfold Hid;have jO:=jK zO;have lQ:=fH.lt;clear jc nK zO;have hx6:=Lib.hid (Bx.of fH (qK.below jO));have h06:=h1.trans ((h5.trans (jO.mono h5.size)).mono h1.size);have hle:w.heap.size≤W1.heap.size:=hB1.size;have hle0:W0.heap.size≤W1.heap.size:=h1.size;have qp:W1.heap.size≤W5.heap.size:=h5.size;clear fH qK jO h5 lQ h1 hB1;generalize W1.heap.size=base at hx6 hle hle0 qp
  generalize W5.heap.size=bx at hx6 qp ⊢
  have hco:c<s.on.length:=by rw [hsn.out.ku];exact hcb
  have hci:(c:Int)<(s.on.length:Int):=by omega
  have hgr:g<(rowAt s.on c).length:=by rw [hsn.out.rowLen hcb];exact WI
  have jin:(g:Int)<((rowAt s.on c).length:Int):=by omega
  have jqI:=hsn.out.cell hcb WI;have hw1:IntKind.i64.wrap (cell s.on c g - n)=cell s.on c g - n:=bf _ (by omega)
  obtain ⟨zS,con,Ju,gr,cr,cur,Ip,Ri,Ia,r0,er,Rh,hbr,rc⟩:=hx6.out.own.Jr hco hgr;obtain ⟨c0,c1,c2,c3,c4,c5,c6⟩:=hx6.out.cells;rw [Ip] at c0
  have er':=Lib.hid er;clear Ip er Ia hbr;go_wp2_with fail;go_still_tail 17,(by kernel_rfl)
  change wpList _ _ _ _ _ w6.drew;refine zi rfl (.tmp 79) (.tmp 78) rfl rfl (i:=c) (g:=g) (q:=cell s.on c g - n) hx6.out.drew hco hgr er'.out rfl rfl (fun w7 hx7 uP=>?_)
  refine gy ?_
  have h07:=h06.drew.trans (uP.below (B:=W0.heap.size) (fun q hq=>by omega) h06.drew.size)
  have pI:=Lib.hid (show Bx w7 base bx 31 [] V5 (Xn s c g n) from hx7)
  clear hx7 uP c0 c1 c2 c3 c4 c5 c6 r0 rc hw1 hx6 h06 er';obtain ⟨gu,cu,jrw,eu,hgu,hbu,ru⟩:=aO.qX pI.out.own.out (g:=g) hgo;change w7.cell? _=some (.int .i64 (aC s.out g)) at ru
  change V5.out=.slice _ s.out.length _ at eu
  obtain ⟨c0,c1,c2,c3,c4,c5,c6⟩:=pI.out.cells;rw [eu] at c5
  have eu':=Lib.hid eu;clear eu hbu;go_wp2_with fail;go_still_tail 11,(by kernel_rfl)
  change wpList _ _ _ _ _ w7.drew;refine Uh rfl (.tmp 90) (.tmp 89) rfl rfl (g:=g) (q:=aC s.out g+n) pI.out.drew hgo eu'.out rfl rfl (fun w8 EF qJ=>?_)
  refine gy ?_
  have ug:=h07.drew.trans (qJ.below (B:=W0.heap.size) (fun q hq=>by omega) h07.drew.size)
  have lN:=Lib.hid (show Bx w8 base bx 31 [] V5 (pk2 s c g n) from EF)
  clear EF qJ c0 c1 c2 c3 c4 c5 c6 ru pI h07 eu';have hlen:=jJ hsn.out.holds;have hs8:=Lib.hid (lN.out.own.holds.sl (by change s.holds.length≤_;omega))
  obtain ⟨c0,c1,c2,c3,c4,c5,c6⟩:=lN.out.cells;go_wp2_with fail;clear c0 c1 c2 c3 c4 c5 c6;refine (jeP _ _ s.holds i j c 0 hs8.out hsn.out.holds (Cb hsn.out hi hj hcb)).mono ?_
  rintro e W9 ⟨u,rfl,hu,h9⟩;obtain ⟨A7,c7,rfl⟩:=hu.isSlice;have jbH:base≤w8.heap.size:=bJ qp (nD lN.out.lt);have hu9:=Lib.hid (hu.from_ jbH);have qj:=Lib.hid (lN.out.below h9);have h09:=ug.trans (h9.mono ug.size);clear hu h9 lN ug hs8;go_wp2_with (refine zk rfl (.tmp 97) (.tmp 96) rfl rfl A7 _ c7 _ qj.out rfl rfl hu9.out (fun w10 tJ nJ=>?_);refine aU ?_)
  unfold Hid;have h010:=h09.trans (nJ.below (B:=W0.heap.size) (fun q hq=>by omega) h09.size)
  have jQ:=Lib.hid (show Bx w10 base bx 31 [] {V5 with holds:=.slice A7 (dA s.holds ⟨i,j,c,0⟩).length c7} (preS s i j c n) by rw [← je4 hgt];exact tJ)
  clear tJ nJ qj hu9 h09;generalize ({V5 with holds:=.slice A7 (dA s.holds ⟨i,j,c,0⟩).length c7}:SV)=V9 at jQ
  obtain ⟨go,co,jg5,eo,jqz,Ib,z0,z1⟩:=jQ.out.own.ay (o:=i) hi;obtain ⟨gl,cl,curl,e1,hgl,hblk,f0,f1,f2,f3⟩:=jQ.out.own.bH (o:=i) (k:=j) hi hj;obtain ⟨c0,c1,c2,c3,c4,c5,c6⟩:=jQ.out.cells;change w10.cell? _=some (.int .i64 (s.line i j).good) at f0
  change w10.cell? _=some (.int .i64 (s.line i j).want) at f1
  change w10.cell? _=some (.int .i64 (s.line i j).got) at f2
  change w10.cell? _=some (.int .i64 (s.line i j).back) at f3
  change V9.orders=.slice _ s.orders.length _ at eo
  change V9.line i=.slice _ (s.order i).lines.length _ at e1
  rw [eo] at c1
  rw [e1] at z1
  have e1':=Lib.hid e1;have TS:=hblk.lt;have jdH:=Ib.lt;have jgh:bx<w10.heap.size:=jQ.out.lt;obtain ⟨gd,wt,gt,bk,hxl⟩:∃ gd wt gt bk,s.line i j=⟨gd,wt,gt,bk⟩:=⟨_,_,_,_,rfl⟩;have hln:=Lib.hid (hsn.out.line hi hj).2;rw [hxl] at f0 f1 f2 f3 hg
  have Wy:=Lib.hid hxl;simp only at hg f0 f1 f2 f3
  subst hg;have jij:(1≤wt∧wt≤200)∧(0≤gt∧gt≤wt)∧0≤bk∧bk≤wt:=by have:=hln.out;rwa [hxl] at this
  have hbl:=Lib.hid (dw.new w10 44 #[.int .i64 g,.int .i64 wt,.int .i64 gt,.int .i64 bk]);have hxa:=Lib.hid (jQ.out.below ((aj _ w10).alloc (aA _) (.cells #[.int .i64 g,.int .i64 wt,.int .i64 gt,.int .i64 bk] 44)));have h0a:=h010.alloc h010.size (.cells #[.int .i64 g,.int .i64 wt,.int .i64 gt,.int .i64 bk] 44);have eo':=Lib.hid eo;clear e1 eo hblk Ib hxl hln jQ h010;go_wp2_with fail;clear c0 c1 c2 c3 c4 c5 c6 z0 z1 f0 f1 f2 f3 TS jdH jgh;generalize w10.heap.size=wl at hbl ⊢
  generalize w10.alloc (.cells #[.int .i64 g,.int .i64 wt,.int .i64 gt,.int .i64 bk] 44)=w11 at hxa h0a hbl ⊢
  obtain ⟨_,_,_,z1⟩:=hxa.out.own.iC (o:=i) hi eo'.out;rw [e1'.out] at z1
  obtain ⟨_,c1,_⟩:=hxa.out.cells;rw [eo'.out] at c1
  have l1:=hbl.out.cell (j:=1) rfl;have l2:=hbl.out.cell (j:=2) rfl;have l3:=hbl.out.cell (j:=3) rfl;obtain ⟨held,MH⟩:∃ x,aF s.holds i j c=x:=⟨_,rfl⟩;rw [MH] at hh1 hh2 g1'
  have Kr:=Lib.hid MH;have hw2:IntKind.i64.wrap (gt+n)=gt+n:=bf _ (by omega)
  have hw3:IntKind.i64.wrap (bk+held)=bk+held:=bf _ (by omega)
  have hw4:IntKind.i64.wrap (bk+held - n)=bk+held - n:=bf _ (by omega)
  have hw5:IntKind.i64.wrap (held - n)=held - n:=bf _ (by omega)
  rw [MH];clear MH;go_wp2_with fail;go_still_tail 22,(by kernel_rfl)
  change wpList _ _ _ _ _ w11.drew;refine X4 rfl (.tmp 128) (.tmp 127) rfl rfl (i:=i) (k:=j) (y:=⟨g,wt,gt+n,bk+held - n⟩) hxa.out.drew hi hj e1'.out rfl rfl (fun w12 jft hst12=>?_)
  refine gy ?_
  have h012:=h0a.drew.trans (hst12.below (B:=W0.heap.size) (fun q hq=>by omega) h0a.drew.size)
  have Hy:=Lib.hid (show Bx w12 base bx 31 [] V9 (picked s i j c held n) by rw [UC,Wy.out];exact jft)
  clear jft hst12 hxa h0a hbl z1 c1 l1 l2 l3 hw2 hw3 hw4;have jfI:=Lib.hid (show Right p (picked s i j c held n) by rw [← Kr.out];exact wV (cO hc'.out) hF.out)
  have jfZ:=Lib.hid (show May (picked s i j c held n) i j (held - n) by rw [← Kr.out];exact BO (cO hc'.out) hF.out)
  have jgM:=hb0.trans (h012.mono hb0.size);obtain ⟨⟨y0,y1⟩,x0,x1,x2,x3,x4,x5,x6,aV,aW⟩:=hK.out w12 (h012);obtain ⟨c0,c1,c2,c3,c4,c5,c6⟩:=Hy.out.cells;have hbs:base≤w12.heap.size:=bJ qp (nD Hy.out.lt);go_wp2_with fail;clear y0 y1 x0 x1 x2 x3 x4 x5 x6 aV aW;clear c0 c1 c2 c3 c4 c5 c6 hw5;refine (jeR _ _ p _ i j (held - n) c (hP'.out _ jgM) jfI.out jfZ.out Hy.out.own hbs).mono ?_
  rintro e W13 ⟨V',hsb,rfl,jnV,jjm⟩;have hkp:=jdx Hy.out.own (show i<(picked s i j c held n).orders.length by rw [iF];exact hi) jjm hbs
  have jbF:=Lib.hid (hkp.2.1 rfl _ _ Hy.out.kW);have h013:=h012.trans (hkp.1.mono hle0);have jfT:=Lib.hid jnV;clear hkp jjm hsb Hy jfI jfZ h012 jgM jnV;go_wp2_with (refine aK (.tmp 17) (.tmp 139) V9 V' rfl jbF.out rfl jfT.out.one (fun w14 jgn jk3=>?_);refine aU ?_)
  unfold Hid;have jdR:=zh h013 jk3 h013.size (fun k hk=>by injection hk with hk;omega)
  have jfs:=Bx.of jgn (jfT.out.keptBy jk3 jbF.out.blk (by decide) (by decide) (by decide) (by decide) (by decide) (by decide))
  have Hw:=Lib.hid (show Bx w14 base bx 31 [] V' (uf p s i j c n) by unfold uf;rw [Kr.out];exact jfs)
  clear jfs jgn jk3 h013 jbF jfT;have hTh:=(BP (cO hc'.out) hF.out).1;have hTi:i<(uf p s i j c n).orders.length:=by rw [hTh.orders,iF];exact hi
  have hTs:=Lib.hid hTh.right.sane;have H7:=Lib.hid (show pick p s i j c n=(close (uf p s i j c n) i,0) from hfin.out)
  clear hTh hF hfin;generalize uf p s i j c n=T at Hw hTi hTs H7
  have l13:=hTs.out.jX hTi;have hTi':(i:Int)<(T.orders.length:Int):=by omega
  obtain ⟨go2,co2,_,eo2,hgo2,-⟩:=Hw.out.own.ay hTi;have jgV:=Lib.hid eo2;obtain ⟨gl2,cl2,e2,jn8⟩:=Hw.out.own.tC hTi (by omega)
  have e2':=Lib.hid e2;clear eo2 e2;go_wp2_with fail;go_loopw [19,20] (fun a k' wr=>∃ q:Nat,q≤(T.order i).lines.length∧k'=.int .i64 q∧a=.bool (Dv (T.order i) q)∧Below w14.heap.size w14 wr) (fun _ k' _=>(T.order i).lines.length - (intOf k').toNat)
  case atStart=>exact ⟨0,aT _,rfl,rfl,aj _ _⟩
  case round=>
   obtain ⟨q,hq,rfl,rfl,h4⟩:=hrel;have hx:=Lib.hid (Hw.out.below h4);obtain ⟨_,_,z0,z1⟩:=hx.out.own.iC hTi jgV.out;rw [e2'.out] at z1
   obtain ⟨c0,c1,c2,c3,c4,c5,c6⟩:=hx.out.cells;rw [jgV.out] at c1
   by_cases hq1:q<(T.order i).lines.length
   ·have hqi:(q:Int)<((T.order i).lines.length:Int):=by omega
    obtain ⟨_,f0,f1,f2,f3⟩:=hx.out.own.jV hTi hq1 e2'.out;have hsu:=Lib.hid (RD hq1);change Hid (Dv (T.order i) (q+1)=(Dv (T.order i) q&&decide ((T.line i q).got=(T.line i q).want))) at hsu
    cases hgq:Dv (T.order i) q
    ·have hn:=Lib.hid (show Dv (T.order i) (q+1)=false by rw [hsu.out,hgq];rfl)
     clear hgq hsu;go_wp2_with fail;go_quiet (fail)
     go_wp2_with fail;go_roundw
     case rel=>exact ⟨q+1,by omega,by go_num,by rw [hn.out],below_drewN h4 _⟩
     case measure=>simp [intOf];omega
    ·by_cases hgw:(T.line i q).got=(T.line i q).want
     ·have hgb:((T.line i q).got==(T.line i q).want)=true:=by simpa using hgw
      have hn:=Lib.hid (show Dv (T.order i) (q+1)=true by rw [hsu.out,hgq,hgw];simp)
      clear hgq hsu hgw;go_wp2_with fail;go_quiet (fail)
      go_wp2_with fail;go_roundw
      case rel=>exact ⟨q+1,by omega,by go_num,by rw [hn.out],below_drewN h4 _⟩
      case measure=>simp [intOf];omega
     ·have hgb:((T.line i q).got==(T.line i q).want)=false:=by simpa using hgw
      have hn:=Lib.hid (show Dv (T.order i) (q+1)=false by rw [hsu.out,hgq,iU hgw];rfl)
      clear hgq hsu hgw;go_wp2_with fail;go_quiet (fail)
      go_wp2_with fail;go_roundw
      case rel=>exact ⟨q+1,by omega,by go_num,by rw [hn.out],below_drewN h4 _⟩
      case measure=>simp [intOf];omega
   ·obtain rfl:q=(T.order i).lines.length:=by omega
    rw [U1];have h0r:=jdR.trans (h4.mono jdR.size);have jlw:=hb0.trans (h0r.mono hb0.size);cases hag:iH (T.order i)
    ·have hfin:=Lib.hid (show pick p s i j c n=(T,0) by rw [H7.out];unfold close;rw [hag];rfl)
     have hvv:=jgV.out;clear hag H7 z0 c0 c1 c2 c3 c4 c5 c6 Hw jgV e2';obtain ⟨a0,a1,a2,a3,a4,a5,a6,a7,a8⟩:=V';obtain rfl:a1=.slice (some ⟨go2,0,none⟩) T.orders.length co2:=hvv;have aX:=hR.out _ h0r;obtain ⟨b0,b1,b2,b3,b4,b5,b6⟩:=dN.cells hx.out.kW;have eU:=aO.one hx.out.own;go_wp2_with (refine aK (.tmp 12) (.tmp 182) aP (⟨a0,.slice (some ⟨go2,0,none⟩) T.orders.length co2,a2,a3,a4,a5,a6,a7,a8⟩:SV) rfl aX rfl eU (fun w9 aN dh=>?_))
     have ng:=aO.keptBy hx.out.own dh aX (by decide) (by decide) (by decide) (by decide) (by decide) (by decide)
     have aQ:=Below.bG jlw dh;clear b0 b1 b2 b3 b4 b5 b6;go_wp2_with fail;exact dn results55 aN rfl rfl (wH hfin.out (ng.from_ hle) aQ)
    ·have hfin:=Lib.hid (show pick p s i j c n=({T with orders:=T.orders.set i {T.order i with kind:=2}},0) by rw [H7.out];unfold close;rw [hag];rfl)
     clear hag H7 c0 c2 c3 c4 c5 c6;go_wp2_with (refine xQ rfl (.tmp 181) (.const (.int .i64 2)) rfl rfl (i:=i) (q:=2) hx.out hTi jgV.out rfl rfl (fun w15 jny jjk=>?_);refine aU ?_)
     unfold Hid;have jo0:=h0r.trans (jjk.below (B:=W0.heap.size) (fun q hq=>by omega) h0r.size)
     have jre:=hb0.trans (jo0.mono hb0.size);have jfr:=Lib.hid jny;clear jny jjk z0 z1 c1;have aX:=hR.out _ jo0;obtain ⟨b0,b1,b2,b3,b4,b5,b6⟩:=dN.cells jfr.out.kW;have eU:=aO.one jfr.out.own;go_wp2_with (refine aK (.tmp 12) (.tmp 182) aP V' rfl aX rfl eU (fun w9 aN dh=>?_))
     have ng:=aO.keptBy jfr.out.own dh aX (by decide) (by decide) (by decide) (by decide) (by decide) (by decide)
     have aQ:=Below.bG jre dh;clear b0 b1 b2 b3 b4 b5 b6;go_wp2_with fail;exact dn results55 aN rfl rfl (wH hfin.out (ng.from_ hle) aQ)
 ·have hne:(checkState p s!=0)=true:=by simpa using hc
  have hfin:=Lib.hid (Yy (o:=o) (k:=k) (b:=b) (n:=n) hc);clear hc;have aX:=hR.out _ h1;go_wp2_with (refine aK (.tmp 12) (.tmp 26) aP aP rfl aX rfl rfl (fun w9 aN dh=>?_))
  have aQ:=Below.bG hB1 dh;go_wp2_with fail;exact dn results55 aN rfl rfl (dF hfin.out aQ)
end Wh
