/- Texts of the claim, joined. -/
import Derived.Test.YtfhfkijmebhgmaaGreatQ12
import Derived.Test.YtfhfkijmebhgmaaGreatQ22
set_option maxHeartbeats 20000000
set_option maxRecDepth 100000
namespace Wh
open Go Go.RowKit Go.Shelf Go.Proofs Tryz
attribute [local go_sem] au dQ dI dX
theorem VR {α:Type} {enc:α→List Value} {size:Nat} {e:TypeId} {w:World} {base:Nat} {v:Value} {l:List α} (h:Own enc size e w base v l) {row:Option Nat} (hn:∀ g,base≤g→some g≠row):v.ownBlock=none∨v.ownBlock≠row:=by
 cases hv:v.ownBlock with
 |none=>exact .inl rfl
 |some g=>exact .inr (hn g (h.size g hv).1)
theorem vS (w:World) (v:Value) (p:Plan) (s:State) (hv:fE w w.heap.size v s) (hs:iI p s):
  Calls prog 16 #[v] w (Gives (fun u w'=>∃ V,u=V.val∧aO w' w.heap.size V s) w):=by
 have h4:=hs.jh;have h8:=hs.lJ;have h72:=jJ hs.holds;have hcnt:=hs.counts;have pJ:=Lib.hid hs;clear hs;obtain ⟨A0,c0,A1,c1,A2,c2,A3,c3,A4,c4,A5,c5,A6,c6,rfl,hV,hN,hO,hH,hM,hI,hU,hX,hl0,hl1,hl2,hl3,hl4,hl5,CW⟩:=iG hv;go_enter func16,ntmps16
 go_wp2_with fail;obtain ⟨W0,hW0,hb0,hsz0,hsz1,hsE,hK⟩:=ES w s A0 c0 A1 c1 A2 c2 A3 c3 A4 c4 A5 c5 A6 c6;rw [hW0];clear hW0;generalize hW1:W0.alloc _=W1;have hb1:Below W0.heap.size W0 W1:=by rw [← hW1];exact (aj _ _).alloc (aA _) _
 have hs1:W0.heap.size<W1.heap.size:=by rw [← hW1];simp
 have jgL:=Lib.hid (show dw W1 W0.heap.size 31 [.slice none 0 0,.slice none 0 0,.slice none 0 0,.slice none 0 0,.slice none 0 0,.slice none 0 0,.slice none 0 0] by rw [← hW1];exact dw.new _ _ _)
 clear hW1;have hB1:=hb0.trans (hb1.mono hb0.size);have hrows:∀ k,k<s.on.length→0<(rowAt s.on k).length∧(rowAt s.on k).length≤1000:=fun k hk=>by
  have:=pJ.out.rowLen (b:=k) (by rw [← pJ.out.ku];exact hk)
  omega
 have hon:s.on.length≤1000:=by rw [pJ.out.ku];omega
 have jbk:=Lib.hid hrows;have jim:=Lib.hid pJ.out.inn.1;have jh8:=Lib.hid pJ.out.out.1;have Wy:=Lib.hid pJ.out.fixed.1;clear hrows;refine lT 25 [
  fun g _=>g 5=.pointer (some ⟨w.heap.size,0,none⟩),
  fun g _=>g 6=.slice A0 s.on.length c0,
  fun g w'=>(fun v w'=>∃ gs,jk 23 3 w' W1.heap.size (v) s.on gs) (g 7) w',
  fun g w'=>(fun v w'=>∃ b,v=.slice (some ⟨b,0,none⟩) 0 0∧W1.heap.size≤b∧dw w' b 46 []) (g 8) w',
  fun g _=>g 9=.pointer (some ⟨w.heap.size,2,none⟩),
  fun g _=>g 10=.slice A2 s.holds.length c2,
  fun g w'=>Own bM 4 46 w' W1.heap.size (g 11) s.holds∧∃ gs,jk 23 3 w' W1.heap.size (g 7) s.on gs,
  fun g w'=>(fun v w'=>∃ b,v=.slice (some ⟨b,0,none⟩) 0 0∧W1.heap.size≤b∧dw w' b 48 []) (g 12) w',
  fun g _=>g 13=.pointer (some ⟨w.heap.size,3,none⟩),
  fun g _=>g 14=.slice A3 s.moves.length c3,
  fun g w'=>Own gV 4 48 w' W1.heap.size (g 15) s.moves∧∃ gs,jk 23 3 w' W1.heap.size (g 7) s.on gs,
  fun g w'=>(fun v w'=>∃ b,v=.slice (some ⟨b,0,none⟩) 0 0∧W1.heap.size≤b∧dw w' b 3 []) (g 16) w',
  fun g _=>g 17=.pointer (some ⟨w.heap.size,4,none⟩),
  fun g _=>g 18=.slice A4 s.inn.length c4,
  fun g w'=>xP w' W1.heap.size s.on s.inn (g 7) (g 19),
  fun g w'=>(fun v w'=>∃ b,v=.slice (some ⟨b,0,none⟩) 0 0∧W1.heap.size≤b∧dw w' b 3 []) (g 20) w',
  fun g _=>g 21=.pointer (some ⟨w.heap.size,5,none⟩),
  fun g _=>g 22=.slice A5 s.out.length c5,
  fun g w'=>xO w' W1.heap.size s.on s.inn s.out (g 7) (g 19) (g 23),
  fun g w'=>(fun v w'=>∃ b,v=.slice (some ⟨b,0,none⟩) 0 0∧W1.heap.size≤b∧dw w' b 3 []) (g 24) w',
  fun g _=>g 25=.pointer (some ⟨w.heap.size,6,none⟩),
  fun g _=>g 26=.slice A6 s.fixed.length c6,
  fun g w'=>xI w' W1.heap.size s.on s.inn s.out s.fixed (g 7) (g 19) (g 23) (g 27),
  fun g _=>g 28=.agg #[g 7,.slice none 0 0,g 11,g 15,g 19,g 23,g 27],
  fun g w'=>(fun v w'=>∃ b,v=.pointer (some ⟨b,0,none⟩)∧W1.heap.size≤b∧dN w' b ⟨gJ,gJ,gJ,gJ,gJ,gJ,gJ,[],[]⟩) (g 3) w'] (by kernel_rfl) (by kernel_rfl) rfl (by kernel_rfl) ?_ (fun f w2 hb2 hR=>?_)
 simp only [eY,eG];refine bg.cons (dU.val rfl rfl (fun g w' hb ho hd=>?_)) ?_
 ·have e1:=ho 1 rfl;go_simp
 refine bg.cons (dU.val rfl rfl (fun g w' hb ho hd=>?_)) ?_
 ·have e1:g 5=.pointer (some ⟨w.heap.size,0,none⟩):=hd ⟨0,.data⟩ (by simp) rfl (by decide)
  obtain ⟨_,x0,x1,x2,x3,x4,x5,x6,_⟩:=hK.out w' (hb1.trans (hb.mono hb1.size));go_simp
 refine bg.cons (dU.one (d:=7) (p:=(fun v w'=>∃ gs,jk 23 3 w' W1.heap.size (v) s.on gs)) rfl rfl (fun v w1 w2 h hb=>h.elim fun gs h=>⟨gs,h.below hb⟩) (fun g w' hb ho hd=>?_)) ?_
 ·have e1:g 6=.slice A0 s.on.length c0:=hd ⟨1,.data⟩ (by simp) rfl (by decide)
  unfold dO;go_simp
  refine (jka w' _ s.on (hN.out w' (hB1.trans (hb.mono hB1.size))) hon jbk.out).mono ?_
  rintro e w2 ⟨u,rfl,⟨gs,h⟩,hb2⟩;exact ⟨u,rfl,⟨gs,h.from_ hb.size⟩,hb2⟩
 refine bg.cons (dU.one (d:=8) (p:=(fun v w'=>∃ b,v=.slice (some ⟨b,0,none⟩) 0 0∧W1.heap.size≤b∧dw w' b 46 [])) rfl rfl (fun v w1 w2 h hb=>h.elim fun b h=>⟨b,h.1,h.2.1,h.2.2.below hb h.2.2.lt⟩) (fun g w' hb ho hd=>?_)) ?_
 ·unfold dO;go_simp
  exact ⟨⟨hb.size,dw.new _ _ _⟩,(aj _ _).alloc (aA _) _⟩
 refine bg.cons (dU.val rfl rfl (fun g w' hb ho hd=>?_)) ?_
 ·have e1:=ho 1 rfl;go_simp
 refine bg.cons (dU.val rfl rfl (fun g w' hb ho hd=>?_)) ?_
 ·have e1:g 9=.pointer (some ⟨w.heap.size,2,none⟩):=hd ⟨4,.data⟩ (by simp) rfl (by decide)
  obtain ⟨_,x0,x1,x2,x3,x4,x5,x6,_⟩:=hK.out w' (hb1.trans (hb.mono hb1.size));go_simp
 refine bg.cons (⟨fun g w1 w2 h hb=>⟨h.1.below hb,h.2.elim fun gs h=>⟨gs,h.below hb⟩⟩,fun g g' w1 he h=>?_,fun g w' hb ho hd=>?_⟩) ?_
 ·have e0:=he 2 _ 7 (.back (i:=6) (e:=⟨2,.chain⟩) rfl (by simp) rfl rfl (.self 2)) rfl rfl
  have e2:=he 6 _ 11 (.self 6) rfl rfl;simp only [e0,e2] at h
  exact h
 ·have e1:g 10=.slice A2 s.holds.length c2:=hd ⟨5,.data⟩ (by simp) rfl (by decide)
  have e2:∃ gs,jk 23 3 w' W1.heap.size (g 7) s.on gs:=hd ⟨2,.chain⟩ (by simp) rfl (by decide)
  have e2':=Lib.hid e2;clear e2;obtain ⟨bb,e3,hbb,hblk⟩:∃ b,g 8=.slice (some ⟨b,0,none⟩) 0 0∧W1.heap.size≤b∧dw w' b 46 []:=hd ⟨3,.data⟩ (by simp) rfl (by decide)
  have hAt:=(hH.out w' (hB1.trans (hb.mono hB1.size))).at_;obtain ⟨u,w2,hr,hb2,h0,h⟩:=lI (P:=prog) w' 28 28 46 _ 4 32 underlying28 ou rfl (by decide) (by decide) bb hblk s.holds A2 c2 w'.heap.size (fun _=>rfl) hAt (by omega)
  unfold dO;simp only [execOp,resolve,invoke,builtin,dQ,e1,e3,lW,nC,nX,rO,dP,nH,hr];have hfin:Own bM 4 46 w2 W1.heap.size (u) s.holds∧∃ gs,jk 23 3 w2 W1.heap.size (g 7) s.on gs:=⟨h0.from_ hbb,e2'.out.elim fun gs h=>⟨gs,h.below hb2⟩⟩
  exact ⟨by simpa [kH,upd] using hfin,hb2⟩
 refine bg.cons (dU.one (d:=12) (p:=(fun v w'=>∃ b,v=.slice (some ⟨b,0,none⟩) 0 0∧W1.heap.size≤b∧dw w' b 48 [])) rfl rfl (fun v w1 w2 h hb=>h.elim fun b h=>⟨b,h.1,h.2.1,h.2.2.below hb h.2.2.lt⟩) (fun g w' hb ho hd=>?_)) ?_
 ·unfold dO;go_simp
  exact ⟨⟨hb.size,dw.new _ _ _⟩,(aj _ _).alloc (aA _) _⟩
 refine bg.cons (dU.val rfl rfl (fun g w' hb ho hd=>?_)) ?_
 ·have e1:=ho 1 rfl;go_simp
 refine bg.cons (dU.val rfl rfl (fun g w' hb ho hd=>?_)) ?_
 ·have e1:g 13=.pointer (some ⟨w.heap.size,3,none⟩):=hd ⟨8,.data⟩ (by simp) rfl (by decide)
  obtain ⟨_,x0,x1,x2,x3,x4,x5,x6,_⟩:=hK.out w' (hb1.trans (hb.mono hb1.size));go_simp
 refine bg.cons (⟨fun g w1 w2 h hb=>⟨h.1.below hb,h.2.elim fun gs h=>⟨gs,h.below hb⟩⟩,fun g g' w1 he h=>?_,fun g w' hb ho hd=>?_⟩) ?_
 ·have e0:=he 2 _ 7 (.back (i:=10) (e:=⟨6,.chain⟩) rfl (by simp) rfl rfl (.back (i:=6) (e:=⟨2,.chain⟩) rfl (by simp) rfl rfl (.self 2))) rfl rfl
  have e3:=he 10 _ 15 (.self 10) rfl rfl;simp only [e0,e3] at h
  exact h
 ·have e1:g 14=.slice A3 s.moves.length c3:=hd ⟨9,.data⟩ (by simp) rfl (by decide)
  have e2:Own bM 4 46 w' W1.heap.size (g 11) s.holds∧∃ gs,jk 23 3 w' W1.heap.size (g 7) s.on gs:=hd ⟨6,.chain⟩ (by simp) rfl (by decide)
  have e2':=Lib.hid e2;clear e2;obtain ⟨bb,e3,hbb,hblk⟩:∃ b,g 12=.slice (some ⟨b,0,none⟩) 0 0∧W1.heap.size≤b∧dw w' b 48 []:=hd ⟨7,.data⟩ (by simp) rfl (by decide)
  have hAt:=(hM.out w' (hB1.trans (hb.mono hB1.size))).at_;obtain ⟨u,w2,hr,hb2,h0,h⟩:=lI (P:=prog) w' 29 29 48 _ 4 32 underlying29 EC rfl (by decide) (by decide) bb hblk s.moves A3 c3 w'.heap.size (fun _=>rfl) hAt (by omega)
  unfold dO;simp only [execOp,resolve,invoke,builtin,dQ,e1,e3,lW,nC,nX,rO,dP,nH,hr];have hfin:Own gV 4 48 w2 W1.heap.size (u) s.moves∧∃ gs,jk 23 3 w2 W1.heap.size (g 7) s.on gs:=⟨h0.from_ hbb,e2'.out.2.elim fun gs h=>⟨gs,h.below hb2⟩⟩
  exact ⟨by simpa [kH,upd] using hfin,hb2⟩
 refine bg.cons (dU.one (d:=16) (p:=(fun v w'=>∃ b,v=.slice (some ⟨b,0,none⟩) 0 0∧W1.heap.size≤b∧dw w' b 3 [])) rfl rfl (fun v w1 w2 h hb=>h.elim fun b h=>⟨b,h.1,h.2.1,h.2.2.below hb h.2.2.lt⟩) (fun g w' hb ho hd=>?_)) ?_
 ·unfold dO;go_simp
  exact ⟨⟨hb.size,dw.new _ _ _⟩,(aj _ _).alloc (aA _) _⟩
 refine bg.cons (dU.val rfl rfl (fun g w' hb ho hd=>?_)) ?_
 ·have e1:=ho 1 rfl;go_simp
 refine bg.cons (dU.val rfl rfl (fun g w' hb ho hd=>?_)) ?_
 ·have e1:g 17=.pointer (some ⟨w.heap.size,4,none⟩):=hd ⟨12,.data⟩ (by simp) rfl (by decide)
  obtain ⟨_,x0,x1,x2,x3,x4,x5,x6,_⟩:=hK.out w' (hb1.trans (hb.mono hb1.size));go_simp
 refine bg.cons (⟨fun g w1 w2 h hb=>h.below hb,fun g g' w1 he h=>?_,fun g w' hb ho hd=>?_⟩) ?_
 ·have e0:=he 2 _ 7 (.back (i:=14) (e:=⟨10,.chain⟩) rfl (by simp) rfl rfl (.back (i:=10) (e:=⟨6,.chain⟩) rfl (by simp) rfl rfl (.back (i:=6) (e:=⟨2,.chain⟩) rfl (by simp) rfl rfl (.self 2)))) rfl rfl
  have e4:=he 14 _ 19 (.self 14) rfl rfl;simp only [e0,e4] at h
  exact h
 ·have e1:g 18=.slice A4 s.inn.length c4:=hd ⟨13,.data⟩ (by simp) rfl (by decide)
  have e2:Own gV 4 48 w' W1.heap.size (g 15) s.moves∧∃ gs,jk 23 3 w' W1.heap.size (g 7) s.on gs:=hd ⟨10,.chain⟩ (by simp) rfl (by decide)
  have e2':=Lib.hid e2;clear e2;obtain ⟨bb,e3,hbb,hblk⟩:∃ b,g 16=.slice (some ⟨b,0,none⟩) 0 0∧W1.heap.size≤b∧dw w' b 3 []:=hd ⟨11,.data⟩ (by simp) rfl (by decide)
  have hAt:=(hI.out w' (hB1.trans (hb.mono hB1.size))).at_;obtain ⟨u,w2,hr,hb2,h0,h⟩:=lI (P:=prog) w' 23 23 3 _ 1 8 underlying23 Fz rfl (by decide) (by decide) bb hblk s.inn A4 c4 w'.heap.size (fun _=>rfl) hAt (by rw [jim.out];omega)
  unfold dO;simp only [execOp,resolve,invoke,builtin,dQ,e1,e3,lW,nC,nX,rO,dP,nH,hr];replace h:=h (by rw [jim.out];omega)
  have hfin:xP w2 W1.heap.size s.on s.inn (g 7) u:=e2'.out.2.elim fun gs h8=>xP.of h8 hb.size hb2 h
  exact ⟨by simpa [kH,upd] using hfin,hb2⟩
 refine bg.cons (dU.one (d:=20) (p:=(fun v w'=>∃ b,v=.slice (some ⟨b,0,none⟩) 0 0∧W1.heap.size≤b∧dw w' b 3 [])) rfl rfl (fun v w1 w2 h hb=>h.elim fun b h=>⟨b,h.1,h.2.1,h.2.2.below hb h.2.2.lt⟩) (fun g w' hb ho hd=>?_)) ?_
 ·unfold dO;go_simp
  exact ⟨⟨hb.size,dw.new _ _ _⟩,(aj _ _).alloc (aA _) _⟩
 refine bg.cons (dU.val rfl rfl (fun g w' hb ho hd=>?_)) ?_
 ·have e1:=ho 1 rfl;go_simp
 refine bg.cons (dU.val rfl rfl (fun g w' hb ho hd=>?_)) ?_
 ·have e1:g 21=.pointer (some ⟨w.heap.size,5,none⟩):=hd ⟨16,.data⟩ (by simp) rfl (by decide)
  obtain ⟨_,x0,x1,x2,x3,x4,x5,x6,_⟩:=hK.out w' (hb1.trans (hb.mono hb1.size));go_simp
 refine bg.cons (⟨fun g w1 w2 h hb=>h.below hb,fun g g' w1 he h=>?_,fun g w' hb ho hd=>?_⟩) ?_
 ·have e0:=he 2 _ 7 (.back (i:=18) (e:=⟨14,.chain⟩) rfl (by simp) rfl rfl (.back (i:=14) (e:=⟨10,.chain⟩) rfl (by simp) rfl rfl (.back (i:=10) (e:=⟨6,.chain⟩) rfl (by simp) rfl rfl (.back (i:=6) (e:=⟨2,.chain⟩) rfl (by simp) rfl rfl (.self 2))))) rfl rfl
  have e4:=he 14 _ 19 (.back (i:=18) (e:=⟨14,.chain⟩) rfl (by simp) rfl rfl (.self 14)) rfl rfl
  have e5:=he 18 _ 23 (.self 18) rfl rfl;simp only [e0,e4,e5] at h
  exact h
 ·have e1:g 22=.slice A5 s.out.length c5:=hd ⟨17,.data⟩ (by simp) rfl (by decide)
  have e2:xP w' W1.heap.size s.on s.inn (g 7) (g 19):=hd ⟨14,.chain⟩ (by simp) rfl (by decide)
  have e2':=Lib.hid e2;clear e2;obtain ⟨bb,e3,hbb,hblk⟩:∃ b,g 20=.slice (some ⟨b,0,none⟩) 0 0∧W1.heap.size≤b∧dw w' b 3 []:=hd ⟨15,.data⟩ (by simp) rfl (by decide)
  have hAt:=(hU.out w' (hB1.trans (hb.mono hB1.size))).at_;obtain ⟨u,w2,hr,hb2,h0,h⟩:=lI (P:=prog) w' 23 23 3 _ 1 8 underlying23 Fz rfl (by decide) (by decide) bb hblk s.out A5 c5 w'.heap.size (fun _=>rfl) hAt (by rw [jh8.out];omega)
  unfold dO;simp only [execOp,resolve,invoke,builtin,dQ,e1,e3,lW,nC,nX,rO,dP,nH,hr];replace h:=h (by rw [jh8.out];omega)
  have hfin:xO w2 W1.heap.size s.on s.inn s.out (g 7) (g 19) u:=xO.of e2'.out hb.size hb2 h;exact ⟨by simpa [kH,upd] using hfin,hb2⟩
 refine bg.cons (dU.one (d:=24) (p:=(fun v w'=>∃ b,v=.slice (some ⟨b,0,none⟩) 0 0∧W1.heap.size≤b∧dw w' b 3 [])) rfl rfl (fun v w1 w2 h hb=>h.elim fun b h=>⟨b,h.1,h.2.1,h.2.2.below hb h.2.2.lt⟩) (fun g w' hb ho hd=>?_)) ?_
 ·unfold dO;go_simp
  exact ⟨⟨hb.size,dw.new _ _ _⟩,(aj _ _).alloc (aA _) _⟩
 refine bg.cons (dU.val rfl rfl (fun g w' hb ho hd=>?_)) ?_
 ·have e1:=ho 1 rfl;go_simp
 refine bg.cons (dU.val rfl rfl (fun g w' hb ho hd=>?_)) ?_
 ·have e1:g 25=.pointer (some ⟨w.heap.size,6,none⟩):=hd ⟨20,.data⟩ (by simp) rfl (by decide)
  obtain ⟨_,x0,x1,x2,x3,x4,x5,x6,_⟩:=hK.out w' (hb1.trans (hb.mono hb1.size));go_simp
 refine bg.cons (⟨fun g w1 w2 h hb=>h.below hb,fun g g' w1 he h=>?_,fun g w' hb ho hd=>?_⟩) ?_
 ·have e0:=he 2 _ 7 (.back (i:=22) (e:=⟨18,.chain⟩) rfl (by simp) rfl rfl (.back (i:=18) (e:=⟨14,.chain⟩) rfl (by simp) rfl rfl (.back (i:=14) (e:=⟨10,.chain⟩) rfl (by simp) rfl rfl (.back (i:=10) (e:=⟨6,.chain⟩) rfl (by simp) rfl rfl (.back (i:=6) (e:=⟨2,.chain⟩) rfl (by simp) rfl rfl (.self 2)))))) rfl rfl
  have e4:=he 14 _ 19 (.back (i:=22) (e:=⟨18,.chain⟩) rfl (by simp) rfl rfl (.back (i:=18) (e:=⟨14,.chain⟩) rfl (by simp) rfl rfl (.self 14))) rfl rfl
  have e5:=he 18 _ 23 (.back (i:=22) (e:=⟨18,.chain⟩) rfl (by simp) rfl rfl (.self 18)) rfl rfl
  have e6:=he 22 _ 27 (.self 22) rfl rfl;simp only [e0,e4,e5,e6] at h
  exact h
 ·have e1:g 26=.slice A6 s.fixed.length c6:=hd ⟨21,.data⟩ (by simp) rfl (by decide)
  have e2:xO w' W1.heap.size s.on s.inn s.out (g 7) (g 19) (g 23):=hd ⟨18,.chain⟩ (by simp) rfl (by decide)
  have e2':=Lib.hid e2;clear e2;obtain ⟨bb,e3,hbb,hblk⟩:∃ b,g 24=.slice (some ⟨b,0,none⟩) 0 0∧W1.heap.size≤b∧dw w' b 3 []:=hd ⟨19,.data⟩ (by simp) rfl (by decide)
  have hAt:=(hX.out w' (hB1.trans (hb.mono hB1.size))).at_;obtain ⟨u,w2,hr,hb2,h0,h⟩:=lI (P:=prog) w' 23 23 3 _ 1 8 underlying23 Fz rfl (by decide) (by decide) bb hblk s.fixed A6 c6 w'.heap.size (fun _=>rfl) hAt (by rw [Wy.out];omega)
  unfold dO;simp only [execOp,resolve,invoke,builtin,dQ,e1,e3,lW,nC,nX,rO,dP,nH,hr];replace h:=h (by rw [Wy.out];omega)
  have hfin:xI w2 W1.heap.size s.on s.inn s.out s.fixed (g 7) (g 19) (g 23) u:=xI.of e2'.out hb.size hb2 h;exact ⟨by simpa [kH,upd] using hfin,hb2⟩
 refine bg.cons (⟨fun g w1 w2 h hb=>h,fun g g' w1 he h=>?_,fun g w' hb ho hd=>?_⟩) ?_
 ·have es:=he 23 _ 28 (.self 23) rfl rfl;have e0:=he 2 _ 7 (.back (i:=23) (e:=⟨2,.data⟩) rfl (by simp) rfl rfl (.self 2)) rfl rfl
  have e2:=he 6 _ 11 (.back (i:=23) (e:=⟨6,.data⟩) rfl (by simp) rfl rfl (.self 6)) rfl rfl
  have e3:=he 10 _ 15 (.back (i:=23) (e:=⟨10,.data⟩) rfl (by simp) rfl rfl (.self 10)) rfl rfl
  have e4:=he 14 _ 19 (.back (i:=23) (e:=⟨14,.data⟩) rfl (by simp) rfl rfl (.self 14)) rfl rfl
  have e5:=he 18 _ 23 (.back (i:=23) (e:=⟨18,.data⟩) rfl (by simp) rfl rfl (.self 18)) rfl rfl
  have e6:=he 22 _ 27 (.back (i:=23) (e:=⟨22,.data⟩) rfl (by simp) rfl rfl (.self 22)) rfl rfl
  change g' 28=.agg #[g' 7,.slice none 0 0,g' 11,g' 15,g' 19,g' 23,g' 27];rw [← es,← e0,← e2,← e3,← e4,← e5,← e6];exact h
 ·obtain ⟨B0,d0,s0⟩:∃ A c,g 7=.slice A s.on.length c:=(hd ⟨2,.data⟩ (by simp) rfl (by decide):∃ gs,jk 23 3 w' W1.heap.size (g 7) s.on gs).elim fun gs h=>h.isSlice
  obtain ⟨B2,d2,s2⟩:=(hd ⟨6,.data⟩ (by simp) rfl (by decide):Own bM 4 46 w' W1.heap.size (g 11) s.holds∧∃ gs,jk 23 3 w' W1.heap.size (g 7) s.on gs).1.isSlice
  obtain ⟨B3,d3,s3⟩:=(hd ⟨10,.data⟩ (by simp) rfl (by decide):Own gV 4 48 w' W1.heap.size (g 15) s.moves∧∃ gs,jk 23 3 w' W1.heap.size (g 7) s.on gs).1.isSlice
  obtain ⟨B4,d4,s4⟩:=(hd ⟨14,.data⟩ (by simp) rfl (by decide):xP w' W1.heap.size s.on s.inn (g 7) (g 19)).isSlice
  obtain ⟨B5,d5,s5⟩:=(hd ⟨18,.data⟩ (by simp) rfl (by decide):xO w' W1.heap.size s.on s.inn s.out (g 7) (g 19) (g 23)).isSlice
  obtain ⟨B6,d6,s6⟩:=(hd ⟨22,.data⟩ (by simp) rfl (by decide):xI w' W1.heap.size s.on s.inn s.out s.fixed (g 7) (g 19) (g 23) (g 27)).isSlice
  unfold dO;go_simp
  exact ⟨by simp [kH,upd,s0,s2,s3,s4,s5,s6],aj _ _⟩
 refine bg.cons (dU.one (d:=3) (p:=(fun v w'=>∃ b,v=.pointer (some ⟨b,0,none⟩)∧W1.heap.size≤b∧dN w' b ⟨gJ,gJ,gJ,gJ,gJ,gJ,gJ,[],[]⟩)) rfl rfl (fun v w1 w2 h hb=>h.elim fun b h=>⟨b,h.1,h.2.1,h.2.2.below hb h.2.2.lt⟩) (fun g w' hb ho hd=>?_)) ?_
 ·unfold dO;go_simp
  exact ⟨⟨hb.size,dw.new _ _ _⟩,(aj _ _).alloc (aA _) _⟩
 exact bg.nil;obtain ⟨r0,r1,r2,⟨bs3,r3,_,_⟩,r4,r5,r6,⟨bs7,r7,_,_⟩,r8,r9,r10,⟨bs11,r11,_,_⟩,r12,r13,r14,⟨bs15,r15,_,_⟩,r16,r17,r18,⟨bs19,r19,_,_⟩,r20,r21,r22,r23,⟨b,r24,hbb,hbox⟩,_⟩:=hR;simp only [fU,qZ,eY,eG,lF,mG,mF,mD,jH,mg,iW,iy,iJ,r0,r1,r3,r4,r5,r7,r8,r9,r11,r12,r13,r15,r16,r17,r19,r20,r21,r23,r24];obtain ⟨B0,d0,s0⟩:=r22.Y2;obtain ⟨B2,d2,s2⟩:=r6.1.isSlice;obtain ⟨B3,d3,s3⟩:=r10.1.isSlice;obtain ⟨B4,d4,s4⟩:=r14.isSlice;obtain ⟨B5,d5,s5⟩:=r18.isSlice;obtain ⟨B6,d6,s6⟩:=r22.isSlice;obtain ⟨vs,hown⟩:=r22.made r6.1 r10.1;simp only [s0,s2,s3,s4,s5,s6] at hown ⊢
 have hO2:=Lib.hid hown;clear hown s0 s2 s3 s4 s5 s6;clear r0 r1 r2 r3 r4 r5 r6 r7 r8 r9 r10 r11 r12 r13 r14 r15 r16 r17 r18 r19 r20 r21 r22 r23 r24;refine aK (.tmp 3) (.tmp 28) _ ⟨.slice B0 s.on.length d0,gJ,.slice B2 s.holds.length d2,.slice B3 s.moves.length d3,.slice B4 s.inn.length d4,.slice B5 s.out.length d5,.slice B6 s.fixed.length d6,vs,[]⟩ rfl hbox rfl rfl (fun w3 Zj hg3=>?_)
 have hbw:Below W1.heap.size W1 w3:=hb2.grown hg3 hb2.size (fun k hk=>by injection hk with hk;omega)
 have hO3:aO w3 W1.heap.size ⟨.slice B0 s.on.length d0,gJ,.slice B2 s.holds.length d2,.slice B3 s.moves.length d3,.slice B4 s.inn.length d4,.slice B5 s.out.length d5,.slice B6 s.fixed.length d6,vs,[]⟩ (upTo s 0):=
  hO2.out.keptBy hg3 hbox.blk (by decide) (by decide) (by decide) (by decide) (by decide) (by decide)
 have jgE:=Lib.hid hO3;have Rq:=Lib.hid Zj;clear hO3 hO2 hbox Zj hg3 hb2;have Zi:=hb1.trans (hbw.mono hb1.size);obtain ⟨_,x0,x1,x2,x3,x4,x5,x6,_⟩:=hK.out w3 Zi;refine gy ?_
 go_wp2_with fail;go_loopw [4] (fun i wr=>∃ (k:Nat) (V:SV),k≤s.orders.length∧i=.int .i64 k∧aO wr W1.heap.size V (upTo s k)∧dN wr b V∧Below W1.heap.size W1 wr) (fun i _=>s.orders.length - (intOf i).toNat)
 case atStart=>exact ⟨0,_,aT _,rfl,jgE.out,Rq.out,hbw⟩
 case round=>
  clear x0 x1 x2 x3 x4 x5 x6 hbw Zi jgE Rq;obtain ⟨k,V,hk,rfl,hOw,hbx,hbw⟩:=hrel;have DX:=Lib.hid hOw;have xg:=Lib.hid hbx;clear hOw hbx;have hB:=hB1.trans (hbw.mono hB1.size);have Zi:=hb1.trans (hbw.mono hb1.size);obtain ⟨_,x0,x1,x2,x3,x4,x5,x6,_⟩:=hK.out wr Zi;by_cases hlt:k<s.orders.length
  ·obtain ⟨A',c',hok1,yw,e0,e1,hsl⟩:=(hO.out W1 hB1).order hlt;obtain ⟨l1,l3⟩:=pJ.out.jX hlt;change 1≤(ay s.orders k).lines.length at l1
   change (ay s.orders k).lines.length≤3 at l3
   have hkl:(k:Int)<(s.orders.length:Int):=by omega
   have hk0:(0:Int)≤(k:Int):=by omega
   have e0':=Lib.hid e0;have e1':=Lib.hid e1;have jp3:=Lib.hid hsl;clear e0 e1 hsl;obtain ⟨Ao,co,Ji⟩:=DX.out.orders.isSlice;have joz:=Lib.hid Ji;have hrow:=Lib.hid (fun r (hr:V.orders.ownBlock=some r)=>DX.out.orders.size r hr)
   have hTB:=Lib.hid (fun w' (hT:wr.grownBy w' V.orders.ownBlock)=>(hbw.grown hT hbw.size (fun r hr=>(hrow.out r hr).1):Below W1.heap.size W1 w'))
   have Ce:=Lib.hid (show some b≠V.orders.ownBlock from fun he=>by
    rcases DX.out.orders.iD xg.out.blk (by decide) with h|h
    ·rw [h] at he;cases he
    ·exact h he.symm)
   have hnew:=Lib.hid (fun g (hg:wr.heap.size≤g)=>(show some g≠V.orders.ownBlock from fun he=>by have:=(hrow.out g he.symm).2;omega))
   have hlo:(pU (upTo s k).orders V.lines).length≤1000000:=by
    rw [kV DX.out.llen];show (s.orders.take k).length≤1000000;rw [dS];omega
   go_wp2_with fail;clear Ji;refine wP 20 (fun w'=>wr.grownBy w' V.orders.ownBlock) (fun w'=>Below wr.heap.size wr w') (fun w1 w2=>w1.grownBy w2 V.orders.ownBlock) 18 [
    fun g _=>g 36=.pointer (some ⟨b,1,none⟩),fun g _=>g 37=.slice Ao (pU (upTo s k).orders V.lines).length co,fun g _=>g 38=.pointer (some ⟨w.heap.size,1,none⟩),fun g _=>g 39=.slice A1 s.orders.length c1,
    fun g _=>g 40=.int .i64 k,fun g _=>g 41=.pointer (some ⟨dD A1,jy A1+k*2,none⟩),fun g _=>g 42=.pointer (some ⟨dD A1,jy A1+k*2,none⟩),fun g _=>g 43=.int .i64 (ay s.orders k).kind,
    fun g w'=>(fun v w'=>∃ b,v=.slice (some ⟨b,0,none⟩) 0 0∧wr.heap.size≤b∧dw w' b 44 []) (g 44) w',
    fun g _=>g 45=.pointer (some ⟨w.heap.size,1,none⟩),fun g _=>g 46=.slice A1 s.orders.length c1,fun g _=>g 47=.int .i64 k,fun g _=>g 48=.pointer (some ⟨dD A1,jy A1+k*2,none⟩),fun g _=>g 49=.pointer (some ⟨dD A1,jy A1+k*2+1,none⟩),
    fun g _=>g 50=.slice A' (ay s.orders k).lines.length c',fun g w'=>(fun v w'=>Own eP 4 44 w' wr.heap.size v (ay s.orders k).lines) (g 51) w',
    fun g w'=>g 52=.agg #[.int .i64 (ay s.orders k).kind,g 51]∧Own eP 4 44 w' wr.heap.size (g 51) (ay s.orders k).lines,
    fun g w'=>(∃ b,g 53=.slice (some ⟨b,0,none⟩) 1 1∧wr.heap.size≤b∧dw w' b 42 [.int .i64 (ay s.orders k).kind,g 51])∧Own eP 4 44 w' wr.heap.size (g 51) (ay s.orders k).lines,
    fun g w'=>Own Gh 2 42 w' W1.heap.size (g 54) ((pU (upTo s k).orders V.lines)++[((ay s.orders k).kind,g 51)])∧Own eP 4 44 w' wr.heap.size (g 51) (ay s.orders k).lines,
    fun g _=>g 55=.pointer (some ⟨b,1,none⟩)] (by kernel_rfl) (by kernel_rfl) rfl (by kernel_rfl)
    (fun w1 w2 h hb=>Du h (gZ hb)) (fun w1 w2 h h'=>Du h h') (fun w1 w2 h hb=>h.trans (hb.mono h.size)) (gZ (aj _ _).drew) (aj _ _).drew ?_ (fun f w2 hT hR=>?_)
   ·simp only [eY,eG];refine bZ.cons (fV.val rfl rfl (by decide) (fun g w' hT ho hd=>?_)) ?_
    ·have e1:=ho 3 rfl;go_simp
    refine bZ.cons (fV.val rfl rfl (by decide) (fun g w' hT ho hd=>?_)) ?_
    ·have e1:g 36=.pointer (some ⟨b,1,none⟩):=hd ⟨0,.data⟩ (by simp) rfl (by decide)
     have y1:=(xg.out.grown hT Ce.out).cells.2.1;rw [joz.out] at y1
     go_simp
    refine bZ.cons (fV.val rfl rfl (by decide) (fun g w' hT ho hd=>?_)) ?_
    ·have e1:=ho 1 rfl;go_simp
    refine bZ.cons (fV.val rfl rfl (by decide) (fun g w' hT ho hd=>?_)) ?_
    ·have e1:g 38=.pointer (some ⟨w.heap.size,1,none⟩):=hd ⟨2,.data⟩ (by simp) rfl (by decide)
     obtain ⟨_,x0,x1,x2,x3,x4,x5,x6,_⟩:=hK.out w' (hb1.trans ((hTB.out w' hT).mono hb1.size));go_simp
    refine bZ.cons (fV.val rfl rfl (by decide) (fun g w' hT ho hd=>?_)) ?_
    ·have e1:=ho 4 rfl;go_simp
    refine bZ.cons (fV.val rfl rfl (by decide) (fun g w' hT ho hd=>?_)) ?_
    ·have e1:g 39=.slice A1 s.orders.length c1:=hd ⟨3,.data⟩ (by simp) rfl (by decide)
     have e2:g 40=.int .i64 k:=hd ⟨4,.data⟩ (by simp) rfl (by decide)
     go_simp
    refine bZ.cons (fV.val rfl rfl (by decide) (fun g w' hT ho hd=>?_)) ?_
    ·have e1:g 41=.pointer (some ⟨dD A1,jy A1+k*2,none⟩):=hd ⟨5,.data⟩ (by simp) rfl (by decide)
     go_simp
    refine bZ.cons (fV.val rfl rfl (by decide) (fun g w' hT ho hd=>?_)) ?_
    ·have e1:g 42=.pointer (some ⟨dD A1,jy A1+k*2,none⟩):=hd ⟨6,.data⟩ (by simp) rfl (by decide)
     have y1:=((hTB.out w' hT).cell (p:=⟨dD A1,jy A1+k*2,none⟩) yw).trans e0'.out;go_simp
    refine bZ.cons (fV.one (d:=44) (p:=fun v w'=>∃ b,v=.slice (some ⟨b,0,none⟩) 0 0∧wr.heap.size≤b∧dw w' b 44 []) rfl rfl (by decide) (fun v w1 w2 h hb=>h.elim fun b h=>⟨b,h.1,h.2.1,h.2.2.below hb h.2.2.lt⟩) (fun v w1 w2 h hb=>h.elim fun b h=>⟨b,h.1,h.2.1,h.2.2.grown hb (hnew.out b h.2.1)⟩) (fun g w' hT ho hd=>?_)) ?_
    ·unfold dO;go_simp
     exact ⟨⟨hT.size,dw.new _ _ _⟩,(aj _ _).alloc (aA _) _⟩
    refine bZ.cons (fV.val rfl rfl (by decide) (fun g w' hT ho hd=>?_)) ?_
    ·have e1:=ho 1 rfl;go_simp
    refine bZ.cons (fV.val rfl rfl (by decide) (fun g w' hT ho hd=>?_)) ?_
    ·have e1:g 45=.pointer (some ⟨w.heap.size,1,none⟩):=hd ⟨9,.data⟩ (by simp) rfl (by decide)
     obtain ⟨_,x0,x1,x2,x3,x4,x5,x6,_⟩:=hK.out w' (hb1.trans ((hTB.out w' hT).mono hb1.size));go_simp
    refine bZ.cons (fV.val rfl rfl (by decide) (fun g w' hT ho hd=>?_)) ?_
    ·have e1:=ho 4 rfl;go_simp
    refine bZ.cons (fV.val rfl rfl (by decide) (fun g w' hT ho hd=>?_)) ?_
    ·have e1:g 46=.slice A1 s.orders.length c1:=hd ⟨10,.data⟩ (by simp) rfl (by decide)
     have e2:g 47=.int .i64 k:=hd ⟨11,.data⟩ (by simp) rfl (by decide)
     go_simp
    refine bZ.cons (fV.val rfl rfl (by decide) (fun g w' hT ho hd=>?_)) ?_
    ·have e1:g 48=.pointer (some ⟨dD A1,jy A1+k*2,none⟩):=hd ⟨12,.data⟩ (by simp) rfl (by decide)
     go_simp
    refine bZ.cons (fV.val rfl rfl (by decide) (fun g w' hT ho hd=>?_)) ?_
    ·have e1:g 49=.pointer (some ⟨dD A1,jy A1+k*2+1,none⟩):=hd ⟨13,.data⟩ (by simp) rfl (by decide)
     have y1:=((hTB.out w' hT).cell (p:=⟨dD A1,jy A1+k*2+1,none⟩) yw).trans e1'.out;go_simp
    refine bZ.cons (fV.one (d:=51) (p:=fun v w'=>Own eP 4 44 w' wr.heap.size v (ay s.orders k).lines) rfl rfl (by decide) (fun v w1 w2 h hb=>Own.below h hb) (fun v w1 w2 h hb=>Own.kept h hb (VR h hnew.out)) (fun g w' hT ho hd=>?_)) ?_
    ·have e1:g 50=.slice A' (ay s.orders k).lines.length c':=hd ⟨14,.data⟩ (by simp) rfl (by decide)
     obtain ⟨bb,e3,jgw,hblk⟩:∃ b,g 44=.slice (some ⟨b,0,none⟩) 0 0∧wr.heap.size≤b∧dw w' b 44 []:=hd ⟨8,.data⟩ (by simp) rfl (by decide)
     have hBw:=hTB.out w' hT;have hAt:=(jp3.out.up hBw hBw.size).at_;obtain ⟨u,w3,hr,hb3,h0,h⟩:=lI (P:=prog) w' 32 32 44 _ 4 32 underlying32 Me rfl (by decide) (by decide) bb hblk (ay s.orders k).lines A' c' w'.heap.size (fun _=>rfl) hAt (by omega)
     unfold dO;simp only [execOp,resolve,invoke,builtin,dQ,e1,e3,lW,nC,nX,rO,dP,nH,hr];exact ⟨(h (by omega)).from_ hT.size,hb3⟩
    refine bZ.cons ⟨fun g w1 w2 h hb=>⟨h.1,h.2.below hb⟩,fun _ g w1 w2 h hb=>⟨h.1,h.2.kept hb (VR h.2 hnew.out)⟩,fun g g' w1 he h=>?_,fun g w' hT _ ho hd=>?_⟩ ?_
    ·have e52:=he 16 _ 52 (.self 16) rfl rfl;have e51:=he 15 _ 51 (.back (i:=16) (e:=⟨15,.data⟩) rfl (by simp) rfl rfl (.self 15)) rfl rfl
     simp only [e51,e52] at h
     exact h
    ·have e1:g 43=.int .i64 (ay s.orders k).kind:=hd ⟨7,.data⟩ (by simp) rfl (by decide)
     have e2:Own eP 4 44 w' wr.heap.size (g 51) (ay s.orders k).lines:=hd ⟨15,.data⟩ (by simp) rfl (by decide)
     obtain ⟨Au,cu,s51⟩:=e2.isSlice;have e2':=Lib.hid e2;clear e2;unfold dO;go_simp
     refine ⟨⟨by simp [kH,upd,s51],?_⟩,aj _ _⟩
     have:=e2'.out;simpa [kH,upd,s51] using this
    refine bZ.cons ⟨fun g w1 w2 h hb=>⟨h.1.elim fun b h=>⟨b,h.1,h.2.1,h.2.2.below hb h.2.2.lt⟩,h.2.below hb⟩,fun _ g w1 w2 h hb=>⟨h.1.elim fun b h=>⟨b,h.1,h.2.1,h.2.2.grown hb (hnew.out b h.2.1)⟩,h.2.kept hb (VR h.2 hnew.out)⟩,fun g g' w1 he h=>?_,fun g w' hT _ ho hd=>?_⟩ ?_
    ·have e53:=he 17 _ 53 (.self 17) rfl rfl;have e51:=he 15 _ 51 (.back (i:=17) (e:=⟨16,.data⟩) rfl (by simp) rfl rfl (.back (i:=16) (e:=⟨15,.data⟩) rfl (by simp) rfl rfl (.self 15))) rfl rfl
     simp only [e51,e53] at h
     exact h
    ·have e1:g 52=.agg #[.int .i64 (ay s.orders k).kind,g 51]∧Own eP 4 44 w' wr.heap.size (g 51) (ay s.orders k).lines:=hd ⟨16,.data⟩ (by simp) rfl (by decide)
     obtain ⟨e3,e2⟩:=e1;obtain ⟨Au,cu,s51⟩:=e2.isSlice;have e2':=Lib.hid e2;clear e2;rw [s51] at e3
     unfold dO;go_simp
     refine ⟨⟨⟨w'.heap.size,by simp [kH,upd],hT.size,?_⟩,?_⟩,(aj _ _).alloc (aA _) _⟩
     ·have:=dw.new w' 42 #[.int .i64 (ay s.orders k).kind,.slice Au (ay s.orders k).lines.length cu];simpa [kH,upd,s51] using this
     ·have:=e2'.out.alloc (.cells #[.int .i64 (ay s.orders k).kind,.slice Au (ay s.orders k).lines.length cu] 42);simpa [kH,upd,s51] using this
    refine bZ.cons ⟨fun g w1 w2 h hb=>⟨h.1.below hb,h.2.below hb⟩,fun hne=>absurd rfl hne,fun g g' w1 he h=>?_,fun g w' hT hJ ho hd=>?_⟩ ?_
    ·have e54:=he 18 _ 54 (.self 18) rfl rfl;have e51:=he 15 _ 51 (.back (i:=18) (e:=⟨15,.chain⟩) rfl (by simp) rfl rfl (.self 15)) rfl rfl
     simp only [e51,e54] at h
     exact h
    ·have e1:g 37=.slice Ao (pU (upTo s k).orders V.lines).length co:=hd ⟨1,.data⟩ (by simp) rfl (by decide)
     obtain ⟨⟨gb,e3,hgb,hblk⟩,e2⟩:(∃ b,g 53=.slice (some ⟨b,0,none⟩) 1 1∧wr.heap.size≤b∧dw w' b 42 [.int .i64 (ay s.orders k).kind,g 51])∧Own eP 4 44 w' wr.heap.size (g 51) (ay s.orders k).lines:=hd ⟨17,.data⟩ (by simp) rfl (by decide)
     have hown:=DX.out.orders.below (hJ rfl);obtain ⟨i,hi,hz,hsize,hbytes⟩:=Jg;have hone:=kL e2;obtain ⟨v',w3,hr,hown3,hg3,_,_⟩:=run_append_own_at (P:=prog) w' W1.heap.size 27 27 42 i _ 2 32 underlying27 hi hz hsize hbytes rfl (by decide) V.orders _ _ hown ⟨gb,0,none⟩ 1 1 (Gh ((ay s.orders k).kind,g 51)) rfl
      (fun j u hj=>by rw [jq,iV];exact hblk.cell hj) (VY _ hone) (by unfold maxLen;omega) (by omega) (bJ hbw.size hT.size)
     rw [joz.out] at hr
     unfold dO;simp only [execOp,resolve,invoke,builtin,dQ,e1,e3,lW,nC,nX,rO,dP,nH,hr];refine ⟨⟨?_,?_⟩,.inr ⟨bP,hg3⟩⟩
     ·have h2:Own Gh 2 42 w3 W1.heap.size v' ((pU (upTo s k).orders V.lines)++[((ay s.orders k).kind,g 51)]):=by
       unfold Own;rw [dK,lD];simpa using hown3
      simpa [kH,upd] using h2
     ·have h2:=e2.kept hg3 (VR e2 hnew.out);simpa [kH,upd] using h2
    refine bZ.cons (fV.val rfl rfl (by decide) (fun g w' hT ho hd=>?_)) ?_
    ·have e1:=ho 3 rfl;go_simp
    exact bZ.nil
   ·obtain ⟨r0,r1,r2,r3,r4,r5,r6,r7,⟨bb,r8,_,_⟩,r9,r10,r11,r12,r13,r14,r15,⟨r16,_⟩,⟨⟨gb,r17,_,_⟩,_⟩,⟨hv,hu⟩,r19,_⟩:=hR;simp only [fU,qZ,eY,eG,lF,mG,mF,mD,jH,mg,iW,iy,iJ,r0,r1,r2,r3,r4,r5,r6,r7,r8,r9,r10,r11,r12,r13,r14,r16,r17,r19];have Xp:=DX.out.jaQ hT (x:=ay s.orders k) (hu.from_ hbw.size) (fun g hg=>(hu.size g hg).1) hv
    have hBx7:=xg.out.grown hT Ce.out;have Nz:=hTB.out w2 hT;obtain ⟨Av,cv,hv7⟩:=hv.isSlice;obtain ⟨Au,cu,hu7⟩:=hu.isSlice;simp only [dK,gQ,je,iV] at hv7
    simp only [hv7,hu7];obtain ⟨vv,hvv⟩:∃ x,x=f 54:=⟨_,rfl⟩;have WR:=Xp.box hBx7 1 vv;have EI:=hBx7.Uu vv;rw [← Ul hlt] at WR
    have jbC:=Nz.setCell (p:=⟨b,1,none⟩) hbb vv;rw [hvv,hv7] at WR EI jbC
    rw [hu7] at WR
    have jbN:=Lib.hid WR;have MK:=Lib.hid EI;have q1:=hBx7.cells.2.1;have qf:=hBx7.frozen 1;clear WR EI Xp hBx7 hv hu hv7 hu7 r0 r1 r2 r3 r4 r5 r6 r7 r8 r9 r10 r11 r12 r13 r14 r15 r16 r17 r19 hvv vv hlo hT hok1 yw;go_wp2_with fail;go_roundw
    case rel=>exact ⟨k+1,_,by omega,by go_num,jbN.out,MK.out,jbC⟩
    case measure=>simp [intOf];omega
  ·obtain rfl:k=s.orders.length:=by omega
   rw [X8] at DX
   have hR1:dw wr (w.heap.size+1) _ _:=hsE.out ▸ jgL.out.below hbw hs1;have hfz:=hR1.frozen;obtain ⟨b0,b1,b2,b3,b4,b5,b6⟩:=xg.out.cells;have hone:V.cells.all (fun u=>u.oneCell')=true:=by
    have h:=DX.out;simp [SV.cells,kL h.on,kL h.orders,kL h.holds,kL h.moves,kL h.inn,kL h.out,kL h.fixed]
   have Ku:dN wr (w.heap.size+1) ⟨gJ,gJ,gJ,gJ,gJ,gJ,gJ,[],[]⟩:=hR1;clear hfz;go_wp2_with (refine aK (.tmp 2) (.tmp 56) _ V rfl Ku rfl hone (fun w9 aN dh=>?_))
   have ng:=DX.out.keptBy dh Ku.blk (by decide) (by decide) (by decide) (by decide) (by decide) (by decide)
   obtain ⟨p0,p1,p2,p3,p4,p5,p6⟩:=aN.cells;have hbz:w.heap.size≤w.heap.size+1:=by omega
   have hfin:Below w.heap.size w w9:=hB.grown dh hB.size (fun k hk=>by injection hk with hk;omega)
   have hsB:w.heap.size≤W1.heap.size:=hB1.size;clear b0 b1 b2 b3 b4 b5 b6;go_wp2_with fail;exact jS (v:=V.val) (by simp [results,results16,go_sem,SV.val,p0,p1,p2,p3,p4,p5,p6]) rfl ⟨_,rfl,⟨V,rfl,ng.from_ hsB⟩,hfin⟩
end Wh
namespace Wh
open Go Go.RowKit
section
variable {P:Program} {l:List Oper} {n:Nat} {R:Nat→Nat→(Nat→Value)→World→Prop} {Q:Exit→Act→World→Prop} {a:Act} {w:World}
def phN (b1 b2:Nat) (listed:Array Bool):Nat:=(if listed.getD b1 false=true then 1 else 0)+(if listed.getD b2 false=true then 1 else 0)
def zM (b1 b2 i ph:Nat):Nat:=if i=b1 then 1 else if i=b2 then 2 else ph
def bkN (b1 b2 k:Nat):Nat:=if k=0 then b1 else b2
def atP (Rs:List (Nat→oL)) (ph:Nat) (i:Nat):oL:=Rs.getD i (fun _ _ _=>True) ph
section
variable {Rs:List (Nat→oL)} {T:World→Prop} {Eb:Nat→World→World→Prop} {b1 b2:Nat}
end
section
variable {Rs:List (Nat→oL)} {T:World→Prop} {Eb:Nat→World→World→Prop} {b1 b2:Nat}
end
end
end Wh
