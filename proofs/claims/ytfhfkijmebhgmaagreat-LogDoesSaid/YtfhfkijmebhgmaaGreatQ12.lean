/- Texts of the claim, joined. -/
import Derived.Deep.RegionHeld3
import Derived.Test.YtfhfkijmebhgmaaGreatQ11
set_option maxHeartbeats 20000000
set_option maxRecDepth 100000
namespace Wh
open Go Go.RowKit Go.Shelf Go.Proofs Tryz
attribute [local go_sem] au dQ dI dX
theorem Jg:Elem prog 42 (.agg #[.int .i64 0,.slice none 0 0]) 2 32:=Af (by kernel_rfl)
theorem VY (x:Int×Value) (h:x.2.oneCell'=true):∀ u∈Gh x,u.oneCell'=true:=by
 intro u hu;simp only [Gh,nY,Bh,o9] at hu
 rcases hu with rfl|rfl
 ·rfl
 ·exact h
theorem kL {α:Type} {enc:α→List Value} {size:Nat} {e:TypeId} {w:World} {base:Nat} {v:Value} {l:List α} (h:Own enc size e w base v l):v.oneCell'=true:=by
 obtain ⟨A,c,rfl⟩:=h.isSlice;rfl
theorem jaz {s:State} {k:Nat} (h:k<s.orders.length):s.orders.take (k+1)=s.orders.take k++[ay s.orders k]:=by
 rw [l9 h,kM h]
def upTo (s:State) (k:Nat):State:={s with orders:=s.orders.take k}
theorem X8 (s:State):upTo s s.orders.length=s:=by
 unfold upTo;rw [jE]
theorem Ul {s:State} {k:Nat} (h:k<s.orders.length):upTo s (k+1)={upTo s k with orders:=(upTo s k).orders++[ay s.orders k]}:=by
 unfold upTo;simp only;rw [jaz h]
theorem Yg (w:World) (v:Value) (p:Plan) (s:State) (hv:fE w w.heap.size v s) (hs:iI p s):
  Calls prog 61 #[v] w (Gives (fun u w'=>∃ V,u=V.val∧aO w' w.heap.size V s) w):=by
 have h4:=hs.jh;have h8:=hs.lJ;have h72:=jJ hs.holds;have hcnt:=hs.counts;have pJ:=Lib.hid hs;clear hs;obtain ⟨A0,c0,A1,c1,A2,c2,A3,c3,A4,c4,A5,c5,A6,c6,rfl,hV,hN,hO,hH,hM,hI,hU,hX,hl0,hl1,hl2,hl3,hl4,hl5,CW⟩:=iG hv;go_enter func61,ntmps61
 go_wp2_with fail;obtain ⟨W0,hW0,hb0,hsz0,hsz1,hsE,hK⟩:=ES w s A0 c0 A1 c1 A2 c2 A3 c3 A4 c4 A5 c5 A6 c6;rw [hW0];clear hW0;generalize hW1:W0.alloc _=W1;have hb1:Below W0.heap.size W0 W1:=by rw [← hW1];exact (aj _ _).alloc (aA _) _
 have hs1:W0.heap.size<W1.heap.size:=by rw [← hW1];simp
 have jgL:=Lib.hid (show dw W1 W0.heap.size 31 [.slice none 0 0,.slice none 0 0,.slice none 0 0,.slice none 0 0,.slice none 0 0,.slice none 0 0,.slice none 0 0] by rw [← hW1];exact dw.new _ _ _)
 clear hW1;have hB1:=hb0.trans (hb1.mono hb0.size);have hrows:∀ k,k<s.on.length→0<(rowAt s.on k).length∧(rowAt s.on k).length≤1000:=fun k hk=>by
  have:=pJ.out.rowLen (b:=k) (by rw [← pJ.out.ku];exact hk)
  omega
 have hon:s.on.length≤1000:=by rw [pJ.out.ku];omega
 have jbk:=Lib.hid hrows;have jim:=Lib.hid pJ.out.inn.1;have jh8:=Lib.hid pJ.out.out.1;have Wy:=Lib.hid pJ.out.fixed.1;clear hrows;refine lT 20 [
  fun g _=>g 6=.pointer (some ⟨w.heap.size,0,none⟩),
  fun g _=>g 7=.slice A0 s.on.length c0,
  fun g w'=>(fun v w'=>∃ gs,jk 23 3 w' W1.heap.size (v) s.on gs) (g 8) w',
  fun g _=>g 9=.pointer (some ⟨w.heap.size,2,none⟩),
  fun g _=>g 10=.slice A2 s.holds.length c2,
  fun g w'=>Own bM 4 46 w' W1.heap.size (g 11) s.holds∧∃ gs,jk 23 3 w' W1.heap.size (g 8) s.on gs,
  fun g _=>g 12=.pointer (some ⟨w.heap.size,3,none⟩),
  fun g _=>g 13=.slice A3 s.moves.length c3,
  fun g w'=>Own gV 4 48 w' W1.heap.size (g 14) s.moves∧∃ gs,jk 23 3 w' W1.heap.size (g 8) s.on gs,
  fun g _=>g 15=.pointer (some ⟨w.heap.size,4,none⟩),
  fun g _=>g 16=.slice A4 s.inn.length c4,
  fun g w'=>xP w' W1.heap.size s.on s.inn (g 8) (g 17),
  fun g _=>g 18=.pointer (some ⟨w.heap.size,5,none⟩),
  fun g _=>g 19=.slice A5 s.out.length c5,
  fun g w'=>xO w' W1.heap.size s.on s.inn s.out (g 8) (g 17) (g 20),
  fun g _=>g 21=.pointer (some ⟨w.heap.size,6,none⟩),
  fun g _=>g 22=.slice A6 s.fixed.length c6,
  fun g w'=>xI w' W1.heap.size s.on s.inn s.out s.fixed (g 8) (g 17) (g 20) (g 23),
  fun g _=>g 24=.agg #[g 8,.slice none 0 0,g 11,g 14,g 17,g 20,g 23],
  fun g w'=>(fun v w'=>∃ b,v=.pointer (some ⟨b,0,none⟩)∧W1.heap.size≤b∧dN w' b ⟨gJ,gJ,gJ,gJ,gJ,gJ,gJ,[],[]⟩) (g 3) w'] (by kernel_rfl) (by kernel_rfl) rfl (by kernel_rfl) ?_ (fun f w2 hb2 hR=>?_)
 simp only [eY,eG];refine bg.cons (dU.val rfl rfl (fun g w' hb ho hd=>?_)) ?_
 ·have e1:=ho 1 rfl;go_simp
 refine bg.cons (dU.val rfl rfl (fun g w' hb ho hd=>?_)) ?_
 ·have e1:g 6=.pointer (some ⟨w.heap.size,0,none⟩):=hd ⟨0,.data⟩ (by simp) rfl (by decide)
  obtain ⟨_,x0,x1,x2,x3,x4,x5,x6,_⟩:=hK.out w' (hb1.trans (hb.mono hb1.size));go_simp
 refine bg.cons (dU.one (d:=8) (p:=(fun v w'=>∃ gs,jk 23 3 w' W1.heap.size (v) s.on gs)) rfl rfl (fun v w1 w2 h hb=>h.elim fun gs h=>⟨gs,h.below hb⟩) (fun g w' hb ho hd=>?_)) ?_
 ·have e1:g 7=.slice A0 s.on.length c0:=hd ⟨1,.data⟩ (by simp) rfl (by decide)
  unfold dO;go_simp
  refine (jeC w' _ s.on (hN.out w' (hB1.trans (hb.mono hB1.size))) hon jbk.out).mono ?_
  rintro e w2 ⟨u,rfl,⟨gs,h⟩,hb2⟩;exact ⟨u,rfl,⟨gs,h.from_ hb.size⟩,hb2⟩
 refine bg.cons (dU.val rfl rfl (fun g w' hb ho hd=>?_)) ?_
 ·have e1:=ho 1 rfl;go_simp
 refine bg.cons (dU.val rfl rfl (fun g w' hb ho hd=>?_)) ?_
 ·have e1:g 9=.pointer (some ⟨w.heap.size,2,none⟩):=hd ⟨3,.data⟩ (by simp) rfl (by decide)
  obtain ⟨_,x0,x1,x2,x3,x4,x5,x6,_⟩:=hK.out w' (hb1.trans (hb.mono hb1.size));go_simp
 refine bg.cons (⟨fun g w1 w2 h hb=>⟨h.1.below hb,h.2.elim fun gs h=>⟨gs,h.below hb⟩⟩,fun g g' w1 he h=>?_,fun g w' hb ho hd=>?_⟩) ?_
 ·have e0:=he 2 _ 8 (.back (i:=5) (e:=⟨2,.chain⟩) rfl (by simp) rfl rfl (.self 2)) rfl rfl
  have e2:=he 5 _ 11 (.self 5) rfl rfl;simp only [e0,e2] at h
  exact h
 ·have e1:g 10=.slice A2 s.holds.length c2:=hd ⟨4,.data⟩ (by simp) rfl (by decide)
  have e2:∃ gs,jk 23 3 w' W1.heap.size (g 8) s.on gs:=hd ⟨2,.chain⟩ (by simp) rfl (by decide)
  have e2':=Lib.hid e2;clear e2;unfold dO;go_simp
  refine (EO w' _ s.holds (hH.out w' (hB1.trans (hb.mono hB1.size))) (by omega)).mono ?_
  rintro e w2 ⟨u,rfl,h,hb2⟩;have hfin:Own bM 4 46 w2 W1.heap.size (u) s.holds∧∃ gs,jk 23 3 w2 W1.heap.size (g 8) s.on gs:=⟨h.from_ hb.size,e2'.out.elim fun gs h=>⟨gs,h.below hb2⟩⟩
  exact ⟨u,rfl,by simpa [kH,upd] using hfin,hb2⟩
 refine bg.cons (dU.val rfl rfl (fun g w' hb ho hd=>?_)) ?_
 ·have e1:=ho 1 rfl;go_simp
 refine bg.cons (dU.val rfl rfl (fun g w' hb ho hd=>?_)) ?_
 ·have e1:g 12=.pointer (some ⟨w.heap.size,3,none⟩):=hd ⟨6,.data⟩ (by simp) rfl (by decide)
  obtain ⟨_,x0,x1,x2,x3,x4,x5,x6,_⟩:=hK.out w' (hb1.trans (hb.mono hb1.size));go_simp
 refine bg.cons (⟨fun g w1 w2 h hb=>⟨h.1.below hb,h.2.elim fun gs h=>⟨gs,h.below hb⟩⟩,fun g g' w1 he h=>?_,fun g w' hb ho hd=>?_⟩) ?_
 ·have e0:=he 2 _ 8 (.back (i:=8) (e:=⟨5,.chain⟩) rfl (by simp) rfl rfl (.back (i:=5) (e:=⟨2,.chain⟩) rfl (by simp) rfl rfl (.self 2))) rfl rfl
  have e3:=he 8 _ 14 (.self 8) rfl rfl;simp only [e0,e3] at h
  exact h
 ·have e1:g 13=.slice A3 s.moves.length c3:=hd ⟨7,.data⟩ (by simp) rfl (by decide)
  have e2:Own bM 4 46 w' W1.heap.size (g 11) s.holds∧∃ gs,jk 23 3 w' W1.heap.size (g 8) s.on gs:=hd ⟨5,.chain⟩ (by simp) rfl (by decide)
  have e2':=Lib.hid e2;clear e2;unfold dO;go_simp
  refine (jd6 w' _ s.moves (hM.out w' (hB1.trans (hb.mono hB1.size))) (by omega)).mono ?_
  rintro e w2 ⟨u,rfl,h,hb2⟩;have hfin:Own gV 4 48 w2 W1.heap.size (u) s.moves∧∃ gs,jk 23 3 w2 W1.heap.size (g 8) s.on gs:=⟨h.from_ hb.size,e2'.out.2.elim fun gs h=>⟨gs,h.below hb2⟩⟩
  exact ⟨u,rfl,by simpa [kH,upd] using hfin,hb2⟩
 refine bg.cons (dU.val rfl rfl (fun g w' hb ho hd=>?_)) ?_
 ·have e1:=ho 1 rfl;go_simp
 refine bg.cons (dU.val rfl rfl (fun g w' hb ho hd=>?_)) ?_
 ·have e1:g 15=.pointer (some ⟨w.heap.size,4,none⟩):=hd ⟨9,.data⟩ (by simp) rfl (by decide)
  obtain ⟨_,x0,x1,x2,x3,x4,x5,x6,_⟩:=hK.out w' (hb1.trans (hb.mono hb1.size));go_simp
 refine bg.cons (⟨fun g w1 w2 h hb=>h.below hb,fun g g' w1 he h=>?_,fun g w' hb ho hd=>?_⟩) ?_
 ·have e0:=he 2 _ 8 (.back (i:=11) (e:=⟨8,.chain⟩) rfl (by simp) rfl rfl (.back (i:=8) (e:=⟨5,.chain⟩) rfl (by simp) rfl rfl (.back (i:=5) (e:=⟨2,.chain⟩) rfl (by simp) rfl rfl (.self 2)))) rfl rfl
  have e4:=he 11 _ 17 (.self 11) rfl rfl;simp only [e0,e4] at h
  exact h
 ·have e1:g 16=.slice A4 s.inn.length c4:=hd ⟨10,.data⟩ (by simp) rfl (by decide)
  have e2:Own gV 4 48 w' W1.heap.size (g 14) s.moves∧∃ gs,jk 23 3 w' W1.heap.size (g 8) s.on gs:=hd ⟨8,.chain⟩ (by simp) rfl (by decide)
  have e2':=Lib.hid e2;clear e2;unfold dO;go_simp
  refine (MS w' _ s.inn (hI.out w' (hB1.trans (hb.mono hB1.size))) (by rw [jim.out];omega)).mono ?_
  rintro e w2 ⟨u,rfl,h,hb2⟩;have hfin:xP w2 W1.heap.size s.on s.inn (g 8) u:=e2'.out.2.elim fun gs h8=>xP.of h8 hb.size hb2 h
  exact ⟨u,rfl,by simpa [kH,upd] using hfin,hb2⟩
 refine bg.cons (dU.val rfl rfl (fun g w' hb ho hd=>?_)) ?_
 ·have e1:=ho 1 rfl;go_simp
 refine bg.cons (dU.val rfl rfl (fun g w' hb ho hd=>?_)) ?_
 ·have e1:g 18=.pointer (some ⟨w.heap.size,5,none⟩):=hd ⟨12,.data⟩ (by simp) rfl (by decide)
  obtain ⟨_,x0,x1,x2,x3,x4,x5,x6,_⟩:=hK.out w' (hb1.trans (hb.mono hb1.size));go_simp
 refine bg.cons (⟨fun g w1 w2 h hb=>h.below hb,fun g g' w1 he h=>?_,fun g w' hb ho hd=>?_⟩) ?_
 ·have e0:=he 2 _ 8 (.back (i:=14) (e:=⟨11,.chain⟩) rfl (by simp) rfl rfl (.back (i:=11) (e:=⟨8,.chain⟩) rfl (by simp) rfl rfl (.back (i:=8) (e:=⟨5,.chain⟩) rfl (by simp) rfl rfl (.back (i:=5) (e:=⟨2,.chain⟩) rfl (by simp) rfl rfl (.self 2))))) rfl rfl
  have e4:=he 11 _ 17 (.back (i:=14) (e:=⟨11,.chain⟩) rfl (by simp) rfl rfl (.self 11)) rfl rfl
  have e5:=he 14 _ 20 (.self 14) rfl rfl;simp only [e0,e4,e5] at h
  exact h
 ·have e1:g 19=.slice A5 s.out.length c5:=hd ⟨13,.data⟩ (by simp) rfl (by decide)
  have e2:xP w' W1.heap.size s.on s.inn (g 8) (g 17):=hd ⟨11,.chain⟩ (by simp) rfl (by decide)
  have e2':=Lib.hid e2;clear e2;unfold dO;go_simp
  refine (MS w' _ s.out (hU.out w' (hB1.trans (hb.mono hB1.size))) (by rw [jh8.out];omega)).mono ?_
  rintro e w2 ⟨u,rfl,h,hb2⟩;have hfin:xO w2 W1.heap.size s.on s.inn s.out (g 8) (g 17) u:=xO.of e2'.out hb.size hb2 h;exact ⟨u,rfl,by simpa [kH,upd] using hfin,hb2⟩
 refine bg.cons (dU.val rfl rfl (fun g w' hb ho hd=>?_)) ?_
 ·have e1:=ho 1 rfl;go_simp
 refine bg.cons (dU.val rfl rfl (fun g w' hb ho hd=>?_)) ?_
 ·have e1:g 21=.pointer (some ⟨w.heap.size,6,none⟩):=hd ⟨15,.data⟩ (by simp) rfl (by decide)
  obtain ⟨_,x0,x1,x2,x3,x4,x5,x6,_⟩:=hK.out w' (hb1.trans (hb.mono hb1.size));go_simp
 refine bg.cons (⟨fun g w1 w2 h hb=>h.below hb,fun g g' w1 he h=>?_,fun g w' hb ho hd=>?_⟩) ?_
 ·have e0:=he 2 _ 8 (.back (i:=17) (e:=⟨14,.chain⟩) rfl (by simp) rfl rfl (.back (i:=14) (e:=⟨11,.chain⟩) rfl (by simp) rfl rfl (.back (i:=11) (e:=⟨8,.chain⟩) rfl (by simp) rfl rfl (.back (i:=8) (e:=⟨5,.chain⟩) rfl (by simp) rfl rfl (.back (i:=5) (e:=⟨2,.chain⟩) rfl (by simp) rfl rfl (.self 2)))))) rfl rfl
  have e4:=he 11 _ 17 (.back (i:=17) (e:=⟨14,.chain⟩) rfl (by simp) rfl rfl (.back (i:=14) (e:=⟨11,.chain⟩) rfl (by simp) rfl rfl (.self 11))) rfl rfl
  have e5:=he 14 _ 20 (.back (i:=17) (e:=⟨14,.chain⟩) rfl (by simp) rfl rfl (.self 14)) rfl rfl
  have e6:=he 17 _ 23 (.self 17) rfl rfl;simp only [e0,e4,e5,e6] at h
  exact h
 ·have e1:g 22=.slice A6 s.fixed.length c6:=hd ⟨16,.data⟩ (by simp) rfl (by decide)
  have e2:xO w' W1.heap.size s.on s.inn s.out (g 8) (g 17) (g 20):=hd ⟨14,.chain⟩ (by simp) rfl (by decide)
  have e2':=Lib.hid e2;clear e2;unfold dO;go_simp
  refine (MS w' _ s.fixed (hX.out w' (hB1.trans (hb.mono hB1.size))) (by rw [Wy.out];omega)).mono ?_
  rintro e w2 ⟨u,rfl,h,hb2⟩;have hfin:xI w2 W1.heap.size s.on s.inn s.out s.fixed (g 8) (g 17) (g 20) u:=xI.of e2'.out hb.size hb2 h;exact ⟨u,rfl,by simpa [kH,upd] using hfin,hb2⟩
 refine bg.cons (⟨fun g w1 w2 h hb=>h,fun g g' w1 he h=>?_,fun g w' hb ho hd=>?_⟩) ?_
 ·have es:=he 18 _ 24 (.self 18) rfl rfl;have e0:=he 2 _ 8 (.back (i:=18) (e:=⟨2,.data⟩) rfl (by simp) rfl rfl (.self 2)) rfl rfl
  have e2:=he 5 _ 11 (.back (i:=18) (e:=⟨5,.data⟩) rfl (by simp) rfl rfl (.self 5)) rfl rfl
  have e3:=he 8 _ 14 (.back (i:=18) (e:=⟨8,.data⟩) rfl (by simp) rfl rfl (.self 8)) rfl rfl
  have e4:=he 11 _ 17 (.back (i:=18) (e:=⟨11,.data⟩) rfl (by simp) rfl rfl (.self 11)) rfl rfl
  have e5:=he 14 _ 20 (.back (i:=18) (e:=⟨14,.data⟩) rfl (by simp) rfl rfl (.self 14)) rfl rfl
  have e6:=he 17 _ 23 (.back (i:=18) (e:=⟨17,.data⟩) rfl (by simp) rfl rfl (.self 17)) rfl rfl
  change g' 24=.agg #[g' 8,.slice none 0 0,g' 11,g' 14,g' 17,g' 20,g' 23];rw [← es,← e0,← e2,← e3,← e4,← e5,← e6];exact h
 ·obtain ⟨B0,d0,s0⟩:∃ A c,g 8=.slice A s.on.length c:=(hd ⟨2,.data⟩ (by simp) rfl (by decide):∃ gs,jk 23 3 w' W1.heap.size (g 8) s.on gs).elim fun gs h=>h.isSlice
  obtain ⟨B2,d2,s2⟩:=(hd ⟨5,.data⟩ (by simp) rfl (by decide):Own bM 4 46 w' W1.heap.size (g 11) s.holds∧∃ gs,jk 23 3 w' W1.heap.size (g 8) s.on gs).1.isSlice
  obtain ⟨B3,d3,s3⟩:=(hd ⟨8,.data⟩ (by simp) rfl (by decide):Own gV 4 48 w' W1.heap.size (g 14) s.moves∧∃ gs,jk 23 3 w' W1.heap.size (g 8) s.on gs).1.isSlice
  obtain ⟨B4,d4,s4⟩:=(hd ⟨11,.data⟩ (by simp) rfl (by decide):xP w' W1.heap.size s.on s.inn (g 8) (g 17)).isSlice
  obtain ⟨B5,d5,s5⟩:=(hd ⟨14,.data⟩ (by simp) rfl (by decide):xO w' W1.heap.size s.on s.inn s.out (g 8) (g 17) (g 20)).isSlice
  obtain ⟨B6,d6,s6⟩:=(hd ⟨17,.data⟩ (by simp) rfl (by decide):xI w' W1.heap.size s.on s.inn s.out s.fixed (g 8) (g 17) (g 20) (g 23)).isSlice
  unfold dO;go_simp
  exact ⟨by simp [kH,upd,s0,s2,s3,s4,s5,s6],aj _ _⟩
 refine bg.cons (dU.one (d:=3) (p:=(fun v w'=>∃ b,v=.pointer (some ⟨b,0,none⟩)∧W1.heap.size≤b∧dN w' b ⟨gJ,gJ,gJ,gJ,gJ,gJ,gJ,[],[]⟩)) rfl rfl (fun v w1 w2 h hb=>h.elim fun b h=>⟨b,h.1,h.2.1,h.2.2.below hb h.2.2.lt⟩) (fun g w' hb ho hd=>?_)) ?_
 ·unfold dO;go_simp
  exact ⟨⟨hb.size,dw.new _ _ _⟩,(aj _ _).alloc (aA _) _⟩
 exact bg.nil;obtain ⟨r0,r1,r2,r3,r4,r5,r6,r7,r8,r9,r10,r11,r12,r13,r14,r15,r16,r17,r18,⟨b,r19,hbb,hbox⟩,_⟩:=hR;simp only [fU,qZ,eY,eG,lF,mG,mF,mD,jH,mg,iW,iy,iJ,r0,r1,r3,r4,r6,r7,r9,r10,r12,r13,r15,r16,r18,r19];obtain ⟨B0,d0,s0⟩:=r17.Y2;obtain ⟨B2,d2,s2⟩:=r5.1.isSlice;obtain ⟨B3,d3,s3⟩:=r8.1.isSlice;obtain ⟨B4,d4,s4⟩:=r11.isSlice;obtain ⟨B5,d5,s5⟩:=r14.isSlice;obtain ⟨B6,d6,s6⟩:=r17.isSlice;obtain ⟨vs,hown⟩:=r17.made r5.1 r8.1;simp only [s0,s2,s3,s4,s5,s6] at hown ⊢
 have hO2:=Lib.hid hown;clear hown s0 s2 s3 s4 s5 s6;clear r0 r1 r2 r3 r4 r5 r6 r7 r8 r9 r10 r11 r12 r13 r14 r15 r16 r17 r18 r19;refine aK (.tmp 3) (.tmp 24) _ ⟨.slice B0 s.on.length d0,gJ,.slice B2 s.holds.length d2,.slice B3 s.moves.length d3,.slice B4 s.inn.length d4,.slice B5 s.out.length d5,.slice B6 s.fixed.length d6,vs,[]⟩ rfl hbox rfl rfl (fun w3 Zj hg3=>?_)
 have hbw:Below W1.heap.size W1 w3:=hb2.grown hg3 hb2.size (fun k hk=>by injection hk with hk;omega)
 have hO3:aO w3 W1.heap.size ⟨.slice B0 s.on.length d0,gJ,.slice B2 s.holds.length d2,.slice B3 s.moves.length d3,.slice B4 s.inn.length d4,.slice B5 s.out.length d5,.slice B6 s.fixed.length d6,vs,[]⟩ (upTo s 0):=
  hO2.out.keptBy hg3 hbox.blk (by decide) (by decide) (by decide) (by decide) (by decide) (by decide)
 have jgE:=Lib.hid hO3;have Rq:=Lib.hid Zj;clear hO3 hO2 hbox Zj hg3 hb2;have Zi:=hb1.trans (hbw.mono hb1.size);obtain ⟨_,x0,x1,x2,x3,x4,x5,x6,_⟩:=hK.out w3 Zi;refine gy ?_
 go_wp2_with fail;go_loopw [28,5] (fun i _ wr=>∃ (k:Nat) (V:SV),k≤s.orders.length∧i=.int .i64 k∧aO wr W1.heap.size V (upTo s k)∧dN wr b V∧Below W1.heap.size W1 wr) (fun i _ _=>s.orders.length - (intOf i).toNat)
 case atStart=>exact ⟨0,_,aT _,rfl,jgE.out,Rq.out,hbw⟩
 case round=>
  clear x0 x1 x2 x3 x4 x5 x6 hbw Zi jgE Rq;obtain ⟨k,V,hk,rfl,hOw,hbx,hbw⟩:=hrel;have DX:=Lib.hid hOw;have xg:=Lib.hid hbx;clear hOw hbx;have hB:=hB1.trans (hbw.mono hB1.size);have Zi:=hb1.trans (hbw.mono hb1.size);by_cases hlt:k<s.orders.length
  ·obtain ⟨A',c',hok1,yw,e0,e1,hsl⟩:=(hO.out wr hB).order hlt;obtain ⟨l1,l3⟩:=pJ.out.jX hlt;change 1≤(ay s.orders k).lines.length at l1
   change (ay s.orders k).lines.length≤3 at l3
   have Y5:Below wr.heap.size wr (wr.alloc (.cells #[.int .i64 (ay s.orders k).kind,.slice A' (ay s.orders k).lines.length c'] 42)):=(aj _ _).alloc (aA _) _;have hla:wr.heap.size<(wr.alloc (.cells #[.int .i64 (ay s.orders k).kind,.slice A' (ay s.orders k).lines.length c'] 42)).heap.size:=by simp
   have hob:dw (wr.alloc (.cells #[.int .i64 (ay s.orders k).kind,.slice A' (ay s.orders k).lines.length c'] 42)) wr.heap.size 42 [.int .i64 (ay s.orders k).kind,.slice A' (ay s.orders k).lines.length c']:=dw.new _ _ _;have jkI:=Lib.hid hob;clear hob;go_wp2_with fail;clear e0 e1;refine (Vf _ _ (ay s.orders k).lines (hsl.grow Y5) (by omega)).mono ?_
   rintro e W4 ⟨u,rfl,hu,hb4⟩;generalize hWa:wr.alloc (.cells #[.int .i64 (ay s.orders k).kind,.slice A' (ay s.orders k).lines.length c'] 42)=Wa at Y5 hla jkI hu hb4
   clear hWa hsl;obtain ⟨Au,cu,rfl⟩:=hu.isSlice;have WQ:=Y5.trans (hb4.mono Y5.size);have jfQ:=jkI.out.below hb4 hla;have jnT:=Lib.hid jfQ;have hu':=Lib.hid hu;have z0:=jfQ.cell (j:=0) rfl;have z1:=jfQ.cell (j:=1) rfl;have zf:=jfQ.frozen 1;have jlv:=xg.out.below WQ xg.out.lt;have y1:=jlv.cells.2.1;have hbne:b≠wr.heap.size:=Nat.ne_of_lt xg.out.lt;have hbne':wr.heap.size≠b:=fun e=>hbne e.symm
   have hBx4':=Lib.hid jlv;clear jfQ hu jlv jkI;go_wp2_with (first|(at_builtin;refine aU ?_)|fail)
   unfold Hid;have jbK:Below wr.heap.size wr (W4.setCell ⟨wr.heap.size,1,none⟩ (Value.slice Au (ay s.orders k).lines.length cu)):=WQ.setCell (aA _) _;have hb16:Below wr.heap.size wr ((W4.setCell ⟨wr.heap.size,1,none⟩ (Value.slice Au (ay s.orders k).lines.length cu)).alloc (.cells #[.int .i64 (ay s.orders k).kind,Value.slice Au (ay s.orders k).lines.length cu] 42)):=jbK.alloc jbK.size _;have hu6:Own eP 4 44 ((W4.setCell ⟨wr.heap.size,1,none⟩ (Value.slice Au (ay s.orders k).lines.length cu)).alloc (.cells #[.int .i64 (ay s.orders k).kind,Value.slice Au (ay s.orders k).lines.length cu] 42)) W1.heap.size (Value.slice Au (ay s.orders k).lines.length cu) (ay s.orders k).lines:=
    ((hu'.out.kept (pF jnT.out 1 _).2 (.inr fun he=>by have:=(hu'.out.size _ he).1;omega)).alloc _).from_ (bJ hbw.size Y5.size)
   have huf:∀ g,Value.ownBlock (Value.slice Au (ay s.orders k).lines.length cu)=some g→wr.heap.size≤g:=fun g hg=>by
    have:=(hu'.out.size g hg).1;omega
   have hlo:(pU (upTo s k).orders V.lines).length≤1000000:=by
    rw [kV DX.out.llen];show (s.orders.take k).length≤1000000;rw [dS];omega
   have hBx6:dN ((W4.setCell ⟨wr.heap.size,1,none⟩ (Value.slice Au (ay s.orders k).lines.length cu)).alloc (.cells #[.int .i64 (ay s.orders k).kind,Value.slice Au (ay s.orders k).lines.length cu] 42)) b V:=(xg.out.below hb16 xg.out.lt);have hO6:=DX.out.below hb16;have jjQ:=Lib.hid hBx6;clear hBx6;have hcn:=kT (W4.setCell ⟨wr.heap.size,1,none⟩ (Value.slice Au (ay s.orders k).lines.length cu)) #[.int .i64 (ay s.orders k).kind,Value.slice Au (ay s.orders k).lines.length cu] 42;rw [show (W4.setCell ⟨wr.heap.size,1,none⟩ (Value.slice Au (ay s.orders k).lines.length cu)).heap.size=W4.heap.size by simp [World.setCell]] at hcn
   refine gK _ rfl (.tmp 37) (.tmp 39) 27 42 rfl W1.heap.size _ 2 32 underlying27 Jg rfl (by decide) (by decide) V.orders (pU (upTo s k).orders V.lines) ((ay s.orders k).kind,Value.slice Au (ay s.orders k).lines.length cu) rfl hO6.orders ⟨W4.heap.size,0,none⟩ 1 rfl rfl hcn (VY _ rfl) hlo (bJ hbw.size hb16.size) ?_
   intro v7 w7 qy O5 Rw zB;have Xp:=DX.out.Ew hb16 (x:=ay s.orders k) hu6 huf O5 qy;have hBx7:dN w7 b V:=jjQ.out.grown O5 (fun he=>by
    rcases hO6.orders.iD jjQ.out.blk (by decide) with h|h
    ·rw [h] at he;cases he
    ·exact h he.symm)
   have Nz:Below W1.heap.size W1 w7:=(hbw.trans (hb16.mono hbw.size)).trans zB;obtain ⟨Av,cv,hv7⟩:=qy.isSlice;simp only [dK,gQ,je,iV] at hv7
   subst hv7;obtain ⟨vv,hvv⟩:∃ x,x=Value.slice Av ((pU (upTo s k).orders V.lines).length+1) cv:=⟨_,rfl⟩;have WR:=Xp.box hBx7 1 vv;have EI:=hBx7.Uu vv;rw [← Ul hlt] at WR
   have jbC:=Nz.setCell (p:=⟨b,1,none⟩) hbb vv;rw [hvv] at WR EI jbC
   clear hvv vv;have jbN:=Lib.hid WR;have MK:=Lib.hid EI;have q1:=hBx7.cells.2.1;have qf:=hBx7.frozen 1;clear WR EI Xp hBx7 hO6 qy O5 Rw zB huf hu6 WQ jbK hb16 hb4 Y5 hla hlo z0 z1 zf y1;go_wp2_with fail;go_roundw
   case rel=>exact ⟨k+1,_,by omega,by go_num,jbN.out,MK.out,jbC⟩
   case measure=>simp [intOf];omega
  ·obtain rfl:k=s.orders.length:=by omega
   rw [X8] at DX
   have hR1:dw wr (w.heap.size+1) _ _:=hsE.out ▸ jgL.out.below hbw hs1;have hfz:=hR1.frozen;obtain ⟨b0,b1,b2,b3,b4,b5,b6⟩:=xg.out.cells;have hone:V.cells.all (fun u=>u.oneCell')=true:=by
    have h:=DX.out;simp [SV.cells,kL h.on,kL h.orders,kL h.holds,kL h.moves,kL h.inn,kL h.out,kL h.fixed]
   have Ku:dN wr (w.heap.size+1) ⟨gJ,gJ,gJ,gJ,gJ,gJ,gJ,[],[]⟩:=hR1;clear hfz;go_wp2_with (refine aK (.tmp 2) (.tmp 43) _ V rfl Ku rfl hone (fun w9 aN dh=>?_))
   have ng:=DX.out.keptBy dh Ku.blk (by decide) (by decide) (by decide) (by decide) (by decide) (by decide)
   obtain ⟨p0,p1,p2,p3,p4,p5,p6⟩:=aN.cells;have hbz:w.heap.size≤w.heap.size+1:=by omega
   have hfin:Below w.heap.size w w9:=hB.grown dh hB.size (fun k hk=>by injection hk with hk;omega)
   have hsB:w.heap.size≤W1.heap.size:=hB1.size;clear b0 b1 b2 b3 b4 b5 b6;go_wp2_with fail;exact jS (v:=V.val) (by simp [results,results61,go_sem,SV.val,p0,p1,p2,p3,p4,p5,p6]) rfl ⟨_,rfl,⟨V,rfl,ng.from_ hsB⟩,hfin⟩
end Wh
namespace Wh
open Go Go.RowKit Go.Shelf Go.Proofs Tryz
attribute [local go_sem] au
theorem jb4 (n:Int) (w:World):Calls prog 190 #[.int .i64 n] w fun e w'=>e=.returned (.bool false)∧w=w':=by
 go_enter func190,ntmps190
 go_wp2
 go_ret
 exact ⟨by simp,rfl⟩
theorem jb5 (a b:Int) (w:World):Calls prog 184 #[.int .i64 a,.int .i64 b] w fun e w'=>e=.returned (.int .i64 (NM a b))∧w=w':=by
 rcases FV a b with ⟨h1,h2⟩|⟨h1,h2⟩|⟨h1,h2⟩
 ·go_enter func184,ntmps184
  go_wp2_with (go_at_call 190;refine (jb4 _ _).mono ?_;rintro e w' ⟨rfl,rfl⟩)
  go_ret
  exact ⟨bT h2.symm,rfl⟩
 ·go_enter func184,ntmps184
  go_wp2_with (go_at_call 190;refine (jb4 _ _).mono ?_;rintro e w' ⟨rfl,rfl⟩)
  go_ret
  exact ⟨bT h2.symm,rfl⟩
 ·subst h1;go_enter func184,ntmps184
  go_wp2_with (go_at_call 190;refine (jb4 _ _).mono ?_;rintro e w' ⟨rfl,rfl⟩)
  go_ret
  exact ⟨bT h2.symm,rfl⟩
def or3 (a b c:Int):Int:=if a≠0 then a else if b≠0 then b else c
theorem jo9 (a b c:Int) (w:World) (bl off k:Nat) (h0:w.cell? ⟨bl,off,none⟩=some (.int .i64 a)) (h1:w.cell? ⟨bl,off+1,none⟩=some (.int .i64 b)) (h2:w.cell? ⟨bl,off+2,none⟩=some (.int .i64 c)):
  Calls prog 183 #[.slice (some ⟨bl,off,none⟩) 3 k] w fun e w'=>e=.returned (.int .i64 (or3 a b c))∧w=w':=by
 by_cases ha:a=0
 ·subst ha;by_cases hb:b=0
  ·subst hb;have hfin:or3 0 0 c=c:=by simp [or3]
   by_cases hc:c=0
   ·subst hc;go_enter func183,ntmps183
    go_wp2_with fail;refine KQ 4 ?_
    rw [uq];go_wp2_with fail;rw [uq];go_wp2_with fail;rw [uq];go_wp2_with fail;rw [uq];go_wp2_with fail;go_ret
    exact ⟨bT hfin.symm,rfl⟩
   ·have hc':(c!=0)=true:=by simpa using hc
    go_enter func183,ntmps183
    go_wp2_with fail;refine KQ 4 ?_
    rw [uq];go_wp2_with fail;rw [uq];go_wp2_with fail;rw [uq];go_wp2_with fail;go_ret
    exact ⟨bT hfin.symm,rfl⟩
  ·have hfin:or3 0 b c=b:=by simp [or3,hb]
   have hb':(b!=0)=true:=by simpa using hb
   go_enter func183,ntmps183
   go_wp2_with fail;refine KQ 4 ?_
   rw [uq];go_wp2_with fail;rw [uq];go_wp2_with fail;go_ret
   exact ⟨bT hfin.symm,rfl⟩
 ·have hfin:or3 a b c=a:=by simp [or3,ha]
  have ha':(a!=0)=true:=by simpa using ha
  go_enter func183,ntmps183
  go_wp2_with fail;refine KQ 4 ?_
  rw [uq];go_wp2_with fail;go_ret
  exact ⟨bT hfin.symm,rfl⟩
theorem Jh (a b:Hold) (w:World):Calls prog 167 #[kG a,kG b] w fun e w'=>e=.returned (.int .i64 (ord a b))∧Below w.heap.size w w':=by
 unfold kG;go_enter func167,ntmps167
 go_wp2_with fail;go_region_held3 (fun w'=>w'.cell? ⟨w.heap.size,0,none⟩=some (.int .i64 a.order)∧w'.cell? ⟨w.heap.size,1,none⟩=some (.int .i64 a.line)∧w'.cell? ⟨w.heap.size,2,none⟩=some (.int .i64 a.bin)∧
  w'.cell? ⟨w.heap.size+1,0,none⟩=some (.int .i64 b.order)∧w'.cell? ⟨w.heap.size+1,1,none⟩=some (.int .i64 b.line)∧w'.cell? ⟨w.heap.size+1,2,none⟩=some (.int .i64 b.bin)) (first|go_keep)
  (first
  |(go_at_call 184;refine (jb5 _ _ _).mono ?_;rintro e w' ⟨rfl,rfl⟩)
  |(go_at_call 183;refine (jo9 (NM a.order b.order) (NM a.line b.line) (NM a.bin b.bin) _ _ _ _ (by go_simp) (by go_simp) (by go_simp)).mono ?_;rintro e w' ⟨rfl,rfl⟩))
 go_wp2_with fail;go_ret
 exact ⟨rfl,((((aj _ _).alloc (aA _) _).alloc (by simp) _).alloc (by simp;omega) _).drew⟩
theorem wU (h:Hold) (w:World) (hk:jL h.order h.line h.bin):Calls prog 125 #[kG h] w fun e w'=>e=.returned (.int .i64 (place h))∧Below w.heap.size w w':=by
 obtain ⟨⟨a1,a2⟩,⟨b1,b2⟩,⟨c1,c2⟩⟩:=hk;unfold kG;go_enter func125,ntmps125
 go_wp2
 go_ret
 exact ⟨rfl,(aj _ _).alloc (aA _) _⟩
theorem jbT (h:Hold):(within h.order 0 3=false∧eX h=false)∨(within h.order 0 3=true∧within h.line 0 2=false∧eX h=false)∨
  (within h.order 0 3=true∧within h.line 0 2=true∧within h.bin 0 5=false∧eX h=false)∨(within h.order 0 3=true∧within h.line 0 2=true∧within h.bin 0 5=true∧eX h=within h.n 1 200):=by
 unfold eX;cases within h.order 0 3<;>cases within h.line 0 2<;>cases within h.bin 0 5<;>simp
theorem I7 (h:Hold) (w:World):Calls prog 151 #[kG h] w fun e w'=>e=.returned (.bool (eX h))∧Below w.heap.size w w':=by
 unfold kG;rcases jbT h with ⟨g1,hf⟩|⟨g1,g2,hf⟩|⟨g1,g2,g3,hf⟩|⟨g1,g2,g3,hf⟩
 all_goals
  go_enter func151,ntmps151
  go_wp2_with (go_at_call 38;refine (iw _ _ _ _).mono ?_;rintro e w' ⟨rfl,rfl⟩)
  go_ret
  exact ⟨aY hf.symm,(aj _ _).alloc (aA _) _⟩
end Wh
namespace Wh
open Go Go.RowKit Go.Shelf Go.Proofs Tryz
attribute [local go_sem] au
theorem jbp (h:Hold):(min (min h.order h.line) h.bin<0∧eX h=false)∨(0≤min (min h.order h.line) h.bin∧4≤h.order∧eX h=false)∨
  (0≤min (min h.order h.line) h.bin∧h.order<4∧3≤h.line∧eX h=false)∨(0≤min (min h.order h.line) h.bin∧h.order<4∧h.line<3∧6≤h.bin∧eX h=false)∨
  (0≤min (min h.order h.line) h.bin∧h.order<4∧h.line<3∧h.bin<6∧h.n<1∧eX h=false)∨(0≤min (min h.order h.line) h.bin∧h.order<4∧h.line<3∧h.bin<6∧1≤h.n∧200<h.n∧eX h=false)∨
  (0≤min (min h.order h.line) h.bin∧h.order<4∧h.line<3∧h.bin<6∧1≤h.n∧h.n≤200∧eX h=true):=by
 have hi:=@gG h;unfold jL at hi
 cases hf:eX h
 ·rw [hf] at hi
  simp only [og,AQ] at hi
  simp only [nV,reduceCtorEq,uz,o9];omega
 ·rw [hf] at hi
  simp only [yM] at hi
  simp only [nV,reduceCtorEq,uz,AP];omega
theorem Rk (h:Hold) (w:World):Calls prog 164 #[kG h] w fun e w'=>e=.returned (.bool (eX h))∧Below w.heap.size w w':=by
 unfold kG;rcases jbp h with ⟨g1,hf⟩|⟨g1,g2,hf⟩|⟨g1,g2,g3,hf⟩|⟨g1,g2,g3,g4,hf⟩|⟨g1,g2,g3,g4,g5,hf⟩|⟨g1,g2,g3,g4,g5,g6,hf⟩|⟨g1,g2,g3,g4,g5,g6,hf⟩
 all_goals
  have hf':=Lib.hid hf;clear hf;go_enter func164,ntmps164
  go_wp2
  all_goals
   go_ret
   exact ⟨aY (by rw [hf'.out]<;>first|rfl|(simp<;>omega)),(aj _ _).alloc (aA _) _⟩
def rG (l:List Hold) (k:Nat):Bool:=eX (hold l k)&&(decide (k=0)||decide (place (hold l (k - 1))<place (hold l k)))
theorem FB {l:List Hold} {k:Nat} (hk:k<l.length) (h:rG l k=false):fB l=1:=by
 unfold fB;rw [ah];intro hc;have:=bY.1 hc k (lu.2 hk);unfold rG at h
 rw [h] at this
 cases this
theorem UZ {l:List Hold} (h:∀ k,k<l.length→rG l k=true):fB l=0:=by
 unfold fB;rw [ak];exact bY.2 fun k hk=>h k (lu.1 hk)
theorem Ur {l:List Hold} {k:Nat} (h:rG l k=true):eX (hold l k)=true:=by
 unfold rG at h
 simp only [dL] at h
 exact h.1
theorem jci {l:List Hold} {k:Nat} (h:eX (hold l k)=false):rG l k=false:=by
 unfold rG;rw [h];rfl
theorem Un {l:List Hold} (h:eX (hold l 0)=true):rG l 0=true:=by
 unfold rG;rw [h];rfl
theorem Uo {l:List Hold} {k:Nat} (h:eX (hold l (k+1))=true):rG l (k+1)=decide (place (hold l k)<place (hold l (k+1))):=by
 unfold rG;rw [h];simp
theorem jes {l:List Hold} {k:Nat} (h:eX (hold l (k+1))=true) (h0:eX (hold l k)=true):rG l (k+1)=decide (ord (hold l k) (hold l (k+1))<0):=by
 rw [Uo h];congr 1
 rw [I9 (gG.1 h0).1 (gG.1 h).1]
theorem O6 (w:World) (v:Value) (l:List Hold) (hv:Sl bM w w.heap.size v l):
  Calls prog 136 #[v] w fun e w'=>e=.returned (.int .i64 (fB l))∧Below w.heap.size w w':=by
 obtain ⟨A,c,rfl,hl,hA⟩:=hv;go_enter func136,ntmps136
 go_wp2_with fail;go_loopw [7,3,4] (fun i _ _ wr=>∃ k:Nat,k≤l.length∧i=.int .i64 k∧(∀ j,j<k→rG l j=true)∧Below w.heap.size w wr) (fun i _ _ _=>l.length - (intOf i).toNat)
 case atStart=>exact ⟨0,aT _,rfl,fun j hj=>by omega,aj _ _⟩
 case round=>
  obtain ⟨k,hk,rfl,hall,hbw⟩:=hrel;by_cases hlt:k<l.length
  ·obtain ⟨hok,EX,b0,b1,b2,b3⟩:=(hA.up hbw hbw.size).hold hlt;have hba:Below w.heap.size w (wr.alloc (.cells #[.int .i64 (hold l k).order,.int .i64 (hold l k).line,.int .i64 (hold l k).bin,.int .i64 (hold l k).n] 46)):=hbw.alloc hbw.size _;have q0:=fun o d os=>aG (w:=wr.alloc (.cells #[.int .i64 (hold l k).order,.int .i64 (hold l k).line,.int .i64 (hold l k).bin,.int .i64 (hold l k).n] 46)) (b:=wr.heap.size) (by simp) o d os
   cases hf:eX (hold l k)
   ·go_wp2_with fail;refine aJ (by kernel_rfl) (by kernel_rfl) ?_
    repeat (go_big_quiet_step ((go_at_call 164;refine bD (Rk (hold l k) _))))
    refine wpQuiet_nil ?_
    intro W2 hw';have hb2:=aI hw';clear hw';go_wp2_with fail;go_ret
    exact ⟨bT (FB hlt (jci hf)).symm,hba.trans (hb2.mono hba.size)⟩
   ·rcases k with _|m
    ·have hst:=Un hf;simp only [Pv,lZ] at b0 b1 b2 b3
     go_wp2_with fail;refine aJ (by kernel_rfl) (by kernel_rfl) ?_
     repeat (go_big_quiet_step ((go_at_call 164;refine bD (Rk (hold l 0) _))))
     refine wpQuiet_nil ?_
     intro W2 hw';have hb2:=aI hw';clear hw';go_wp2_with fail;go_roundw
     case rel=>exact ⟨1,by omega,by go_num,fun j hj=>by (obtain rfl:j=0:=by omega);exact hst,hba.trans (hb2.mono hba.size)⟩
     case measure=>simp [intOf];omega
    ·obtain ⟨_,_,c0,c1,c2,c3⟩:=(hA.up hbw hbw.size).hold (show m<l.length by omega)
     have qA:=fun o d os=>aG (w:=wr.alloc (.cells #[.int .i64 (hold l (m+1)).order,.int .i64 (hold l (m+1)).line,.int .i64 (hold l (m+1)).bin,.int .i64 (hold l (m+1)).n] 46)) (b:=dD A) (by simp;omega) o d os
     have hst:=jes hf (Ur (hall m (by omega)))
     by_cases ho:ord (hold l m) (hold l (m+1))<0
     ·have hst':=Lib.hid (show rG l (m+1)=true by rw [hst];simpa using ho)
      clear hst;go_wp2_with fail;refine aJ (by kernel_rfl) (by kernel_rfl) ?_
      repeat (go_big_quiet_step ((first|(go_at_call 164;refine bD (Rk (hold l (m+1)) _))|(go_at_call 167;refine bD (Jh (hold l m) (hold l (m+1)) _)))))
      refine wpQuiet_nil ?_
      intro W2 hw';have hb2:=aI hw';clear hw';go_wp2_with fail;go_roundw
      case rel=>
       refine ⟨m+2,by omega,by go_num,fun j hj=>?_,hba.trans (hb2.mono hba.size)⟩
       rcases dB.1 hj with h|rfl
       ·exact hall j h
       ·exact hst'.out
      case measure=>simp [intOf];omega
     ·have hst':=Lib.hid (show rG l (m+1)=false by rw [hst];simpa using ho)
      have ho':0≤ord (hold l m) (hold l (m+1)):=by omega
      clear hst ho;go_wp2_with fail;refine aJ (by kernel_rfl) (by kernel_rfl) ?_
      repeat (go_big_quiet_step ((first|(go_at_call 164;refine bD (Rk (hold l (m+1)) _))|(go_at_call 167;refine bD (Jh (hold l m) (hold l (m+1)) _)))))
      refine wpQuiet_nil ?_
      intro W2 hw';have hb2:=aI hw';clear hw';go_wp2_with fail;go_ret
      exact ⟨bT (FB hlt hst'.out).symm,hba.trans (hb2.mono hba.size)⟩
  ·obtain rfl:k=l.length:=by omega
   have hfin:=Lib.hid (UZ hall);go_wp2_with fail;go_ret
   exact ⟨bT hfin.out.symm,hbw⟩
theorem Yw (w:World) (v:Value) (l:List Hold) (hv:Sl bM w w.heap.size v l):
  Calls prog 90 #[v] w fun e w'=>e=.returned (.int .i64 (fB l))∧Below w.heap.size w w':=by
 obtain ⟨A,c,rfl,hl,hA⟩:=hv;go_enter func90,ntmps90
 go_wp2_with fail;go_loopw [3] (fun i wr=>∃ k:Nat,k≤l.length∧i=.int .i64 k∧(∀ j,j<k→rG l j=true)∧Below w.heap.size w wr) (fun i _=>l.length - (intOf i).toNat)
 case atStart=>exact ⟨0,aT _,rfl,fun j hj=>by omega,aj _ _⟩
 case round=>
  obtain ⟨k,hk,rfl,hall,hbw⟩:=hrel;by_cases hlt:k<l.length
  ·obtain ⟨hok,EX,b0,b1,b2,b3⟩:=(hA.up hbw hbw.size).hold hlt;have qA:=fun o d os=>aG (w:=wr) (b:=dD A) EX o d os
   cases hf:eX (hold l k)
   ·go_wp2_with fail;refine aJ (by kernel_rfl) (by kernel_rfl) ?_
    repeat (go_big_quiet_step ((go_at_call 151;refine bD (I7 (hold l k) _))))
    refine wpQuiet_nil ?_
    intro W2 hw';have hb2:=aI hw';clear hw';go_wp2_with fail;go_ret
    exact ⟨bT (FB hlt (jci hf)).symm,hbw.trans (hb2.mono hbw.size)⟩
   ·rcases k with _|m
    ·have hst:=Un hf;simp only [Pv,lZ] at b0 b1 b2 b3
     go_wp2_with fail;refine aJ (by kernel_rfl) (by kernel_rfl) ?_
     repeat (go_big_quiet_step ((go_at_call 151;refine bD (I7 (hold l 0) _))))
     refine wpQuiet_nil ?_
     intro W2 hw';have hb2:=aI hw';clear hw';go_wp2_with fail;go_roundw
     case rel=>exact ⟨1,by omega,by go_num,fun j hj=>by (obtain rfl:j=0:=by omega);exact hst,hbw.trans (hb2.mono hbw.size)⟩
     case measure=>simp [intOf];omega
    ·obtain ⟨_,_,c0,c1,c2,c3⟩:=(hA.up hbw hbw.size).hold (show m<l.length by omega)
     have hst:=Uo hf;have hk0:=(gG.1 (Ur (hall m (by omega)))).1
     have hk1:=(gG.1 hf).1;have hK0:=Lib.hid hk0;have hK1:=Lib.hid hk1;clear hk0 hk1;by_cases ho:place (hold l m)<place (hold l (m+1))
     ·have hst':=Lib.hid (show rG l (m+1)=true by rw [hst];simpa using ho)
      clear hst;go_wp2_with fail;refine aJ (by kernel_rfl) (by kernel_rfl) ?_
      repeat (go_big_quiet_step ((first|(go_at_call 151;refine bD (I7 (hold l (m+1)) _))|(go_at_call 125;refine bD (wU _ _ (by first|exact hK0.out|exact hK1.out))))))
      refine wpQuiet_nil ?_
      intro W2 hw';have hb2:=aI hw';clear hw';go_wp2_with fail;go_roundw
      case rel=>
       refine ⟨m+2,by omega,by go_num,fun j hj=>?_,hbw.trans (hb2.mono hbw.size)⟩
       rcases dB.1 hj with h|rfl
       ·exact hall j h
       ·exact hst'.out
      case measure=>simp [intOf];omega
     ·have hst':=Lib.hid (show rG l (m+1)=false by rw [hst];simpa using ho)
      have ho':place (hold l (m+1))≤place (hold l m):=by omega
      clear hst ho;go_wp2_with fail;refine aJ (by kernel_rfl) (by kernel_rfl) ?_
      repeat (go_big_quiet_step ((first|(go_at_call 151;refine bD (I7 (hold l (m+1)) _))|(go_at_call 125;refine bD (wU _ _ (by first|exact hK0.out|exact hK1.out))))))
      refine wpQuiet_nil ?_
      intro W2 hw';have hb2:=aI hw';clear hw';go_wp2_with fail;go_ret
      exact ⟨bT (FB hlt hst'.out).symm,hbw.trans (hb2.mono hbw.size)⟩
  ·obtain rfl:k=l.length:=by omega
   have hfin:=Lib.hid (UZ hall);go_wp2_with fail;go_ret
   exact ⟨bT hfin.out.symm,hbw⟩
end Wh
