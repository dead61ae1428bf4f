/- Texts of the claim, joined. -/
import Derived.Test.YtfhfkijmebhgmaaGreatK17
set_option maxHeartbeats 20000000
set_option maxRecDepth 100000
namespace Wh
open Go Go.RowKit Go.Shelf Go.Proofs Tryz
attribute [local go_sem] aT jW jm kC
theorem ZF{α:Type}{enc:α->List Value}{size:Nat}{e:TypeId}{w:World}{aO:Nat}{v:Value}{l:List α}(h:Own enc size e w aO v l){row:Option Nat}(hn:∀g,aO<=g->some g≠row):v.ownBlock=none\/v.ownBlock≠row:=by
 cases hv:v.ownBlock with
 |none=>exact .inl rfl
 |some g=>exact .inr (hn g (h.size g hv).1)
theorem EI(w:World)(v:Value)(p:dA)(s:aJ)(hv:lK w w.heap.size v s)(hs:o9 p s):
  Calls prog 16 #[v] w (Gives (λu w'=>∃V,u=V.val/\dK w' w.heap.size V s) w):=by
 have h4:=hs.qH;have h8:=hs.vJ;have h72:=su hs.aA;have hcnt:=hs.counts;have zy:=ah hs;clear hs;obtain⟨A0,c0,A1,c1,A2,c2,A3,c3,A4,c4,A5,c5,A6,c6,rfl,hV,hN,hO,hH,hM,hI,hU,hX,hl0,hl1,hl2,hl3,hl4,hl5,JA⟩:=oW hv;go_enter func16,ntmps16
 go_wp2_with fail;obtain⟨W0,hW0,hb0,lg,uZ,hsE,hK⟩:=Lp w s A0 c0 A1 c1 A2 c2 A3 c3 A4 c4 A5 c5 A6 c6;rw[hW0];clear hW0;generalize hW1:W0.alloc _=W1;have hb1:Below W0.heap.size W0 W1:=by rw[<- hW1];exact(aj _ _).alloc (au _) _
 have hs1:W0.heap.size<W1.heap.size:=by rw[<- hW1];simp
 have jji:=ah (show iV W1 W0.heap.size 31 [.slice none 0 0,.slice none 0 0,.slice none 0 0,.slice none 0 0,.slice none 0 0,.slice none 0 0,.slice none 0 0]by rw[<- hW1];exact iV.new _ _ _)
 clear hW1;have hB1:=hb0.trans (hb1.mono hb0.size);have G9:∀k,k<s.on.length->0<(fO s.on k).length/\(fO s.on k).length<=1000:=λk hk=>by
  have:=zy.O.rowLen (b:=k) (by rw[<- zy.O.tY];exact hk)
  omega
 have hon:s.on.length<=1000:=by rw[zy.O.tY];omega
 have jdS:=ah G9;have jkZ:=ah zy.O.gY.1;have jkJ:=ah zy.O.O.1;have ZX:=ah zy.O.bg.1;clear G9;refine qZ 25 [
  λg _=>g 5=.pointer (some ⟨w.heap.size,0,none⟩),λg _=>g 6=.slice A0 s.on.length c0,λg w'=>(λv w'=>∃gs,qM 23 3 w' W1.heap.size (v) s.on gs) (g 7) w',λg w'=>(λv w'=>∃b,v=.slice (some ⟨b,0,none⟩) 0 0/\W1.heap.size<=b/\iV w' b 46 []) (g 8) w',λg _=>g 9=.pointer (some ⟨w.heap.size,2,none⟩),λg _=>g 10=.slice A2 s.aA.length c2,λg w'=>Own ig 4 46 w' W1.heap.size (g 11) s.aA/\∃gs,qM 23 3 w' W1.heap.size (g 7) s.on gs,λg w'=>(λv w'=>∃b,v=.slice (some ⟨b,0,none⟩) 0 0/\W1.heap.size<=b/\iV w' b 48 []) (g 12) w',λg _=>g 13=.pointer (some ⟨w.heap.size,3,none⟩),λg _=>g 14=.slice A3 s.aF.length c3,λg w'=>Own nP 4 48 w' W1.heap.size (g 15) s.aF/\∃gs,qM 23 3 w' W1.heap.size (g 7) s.on gs,λg w'=>(λv w'=>∃b,v=.slice (some ⟨b,0,none⟩) 0 0/\W1.heap.size<=b/\iV w' b 3 []) (g 16) w',λg _=>g 17=.pointer (some ⟨w.heap.size,4,none⟩),λg _=>g 18=.slice A4 s.gY.length c4,λg w'=>F5 w' W1.heap.size s.on s.gY (g 7) (g 19),λg w'=>(λv w'=>∃b,v=.slice (some ⟨b,0,none⟩) 0 0/\W1.heap.size<=b/\iV w' b 3 []) (g 20) w',λg _=>g 21=.pointer (some ⟨w.heap.size,5,none⟩),λg _=>g 22=.slice A5 s.O.length c5,λg w'=>FZ w' W1.heap.size s.on s.gY s.O (g 7) (g 19) (g 23),λg w'=>(λv w'=>∃b,v=.slice (some ⟨b,0,none⟩) 0 0/\W1.heap.size<=b/\iV w' b 3 []) (g 24) w',λg _=>g 25=.pointer (some ⟨w.heap.size,6,none⟩),λg _=>g 26=.slice A6 s.bg.length c6,λg w'=>FU w' W1.heap.size s.on s.gY s.O s.bg (g 7) (g 19) (g 23) (g 27),λg _=>g 28=.agg #[g 7,.slice none 0 0,g 11,g 15,g 19,g 23,g 27],λg w'=>(λv w'=>∃b,v=.pointer (some ⟨b,0,none⟩)/\W1.heap.size<=b/\jk w' b ⟨mJ,mJ,mJ,mJ,mJ,mJ,mJ,[],[]⟩) (g 3) w'] (by kernel_rfl) (by kernel_rfl) rfl (by kernel_rfl) ?_ (λf w2 hb2 hR=>?_)
 simp only[bC,bV];refine dX.cons (iR.val rfl rfl (λg w' hb ho hd=>?_)) ?_
 ·have e1:=ho 1 rfl;go_simp
 refine dX.cons (iR.val rfl rfl (λg w' hb ho hd=>?_)) ?_
 ·have e1:g 5=.pointer (some ⟨w.heap.size,0,none⟩):=hd ⟨0,.data⟩ (by simp) rfl (by decide)
  obtain⟨_,x0,x1,x2,x3,x4,x5,x6,_⟩:=hK.O w' (hb1.trans (hb.mono hb1.size));go_simp
 refine dX.cons (iR.one (d:=7) (p:=(λv w'=>∃gs,qM 23 3 w' W1.heap.size (v) s.on gs)) rfl rfl (λv w1 w2 h hb=>h.elim λgs h=>⟨gs,h.below hb⟩) (λg w' hb ho hd=>?_)) ?_
 ·have e1:g 6=.slice A0 s.on.length c0:=hd ⟨1,.data⟩ (by simp) rfl (by decide)
  unfold iT;go_simp
  refine(jmO w' _ s.on (hN.O w' (hB1.trans (hb.mono hB1.size))) hon jdS.O).mono ?_
  rintro e w2 ⟨u,rfl,⟨gs,h⟩,hb2⟩;exact⟨u,rfl,⟨gs,h.from_ hb.size⟩,hb2⟩
 refine dX.cons (iR.one (d:=8) (p:=(λv w'=>∃b,v=.slice (some ⟨b,0,none⟩) 0 0/\W1.heap.size<=b/\iV w' b 46 [])) rfl rfl (λv w1 w2 h hb=>h.elim λb h=>⟨b,h.1,h.2.1,h.2.2.below hb h.2.2.lt⟩) (λg w' hb ho hd=>?_)) ?_
 ·unfold iT;go_simp
  exact⟨⟨hb.size,iV.new _ _ _⟩,(aj _ _).alloc (au _) _⟩
 refine dX.cons (iR.val rfl rfl (λg w' hb ho hd=>?_)) ?_
 ·have e1:=ho 1 rfl;go_simp
 refine dX.cons (iR.val rfl rfl (λg w' hb ho hd=>?_)) ?_
 ·have e1:g 9=.pointer (some ⟨w.heap.size,2,none⟩):=hd ⟨4,.data⟩ (by simp) rfl (by decide)
  obtain⟨_,x0,x1,x2,x3,x4,x5,x6,_⟩:=hK.O w' (hb1.trans (hb.mono hb1.size));go_simp
 refine dX.cons (⟨λg w1 w2 h hb=>⟨h.1.below hb,h.2.elim λgs h=>⟨gs,h.below hb⟩⟩,λg g' w1 he h=>?_,λg w' hb ho hd=>?_⟩) ?_
 ·have e0:=he 2 _ 7 (.dP (i:=6) (e:=⟨2,.chain⟩) rfl (by simp) rfl rfl (.self 2)) rfl rfl
  have e2:=he 6 _ 11 (.self 6) rfl rfl;simp only[e0,e2]at h
  exact h
 ·have e1:g 10=.slice A2 s.aA.length c2:=hd ⟨5,.data⟩ (by simp) rfl (by decide)
  have e2:∃gs,qM 23 3 w' W1.heap.size (g 7) s.on gs:=hd ⟨2,.chain⟩ (by simp) rfl (by decide)
  have e2':=ah e2;clear e2;obtain⟨bb,e3,hbb,Cc⟩:∃b,g 8=.slice (some ⟨b,0,none⟩) 0 0/\W1.heap.size<=b/\iV w' b 46 []:=hd ⟨3,.data⟩ (by simp) rfl (by decide)
  have hAt:=(hH.O w' (hB1.trans (hb.mono hB1.size))).at_;obtain⟨u,w2,hr,hb2,h0,h⟩:=vF (P:=prog) w' 28 28 46 _ 4 32 underlying28 yc rfl (by decide) (by decide) bb Cc s.aA A2 c2 w'.heap.size (λ_=>rfl) hAt (by omega)
  unfold iT;simp only[execOp,resolve,invoke,builtin,jW,e1,e3,jg,jw,iC,kJ,dn,jL,hr];have bK:Own ig 4 46 w2 W1.heap.size (u) s.aA/\∃gs,qM 23 3 w2 W1.heap.size (g 7) s.on gs:=⟨h0.from_ hbb,e2'.O.elim λgs h=>⟨gs,h.below hb2⟩⟩
  exact⟨by simpa[qI,upd]using bK,hb2⟩
 refine dX.cons (iR.one (d:=12) (p:=(λv w'=>∃b,v=.slice (some ⟨b,0,none⟩) 0 0/\W1.heap.size<=b/\iV w' b 48 [])) rfl rfl (λv w1 w2 h hb=>h.elim λb h=>⟨b,h.1,h.2.1,h.2.2.below hb h.2.2.lt⟩) (λg w' hb ho hd=>?_)) ?_
 ·unfold iT;go_simp
  exact⟨⟨hb.size,iV.new _ _ _⟩,(aj _ _).alloc (au _) _⟩
 refine dX.cons (iR.val rfl rfl (λg w' hb ho hd=>?_)) ?_
 ·have e1:=ho 1 rfl;go_simp
 refine dX.cons (iR.val rfl rfl (λg w' hb ho hd=>?_)) ?_
 ·have e1:g 13=.pointer (some ⟨w.heap.size,3,none⟩):=hd ⟨8,.data⟩ (by simp) rfl (by decide)
  obtain⟨_,x0,x1,x2,x3,x4,x5,x6,_⟩:=hK.O w' (hb1.trans (hb.mono hb1.size));go_simp
 refine dX.cons (⟨λg w1 w2 h hb=>⟨h.1.below hb,h.2.elim λgs h=>⟨gs,h.below hb⟩⟩,λg g' w1 he h=>?_,λg w' hb ho hd=>?_⟩) ?_
 ·have e0:=he 2 _ 7 (.dP (i:=10) (e:=⟨6,.chain⟩) rfl (by simp) rfl rfl (.dP (i:=6) (e:=⟨2,.chain⟩) rfl (by simp) rfl rfl (.self 2))) rfl rfl
  have e3:=he 10 _ 15 (.self 10) rfl rfl;simp only[e0,e3]at h
  exact h
 ·have e1:g 14=.slice A3 s.aF.length c3:=hd ⟨9,.data⟩ (by simp) rfl (by decide)
  have e2:Own ig 4 46 w' W1.heap.size (g 11) s.aA/\∃gs,qM 23 3 w' W1.heap.size (g 7) s.on gs:=hd ⟨6,.chain⟩ (by simp) rfl (by decide)
  have e2':=ah e2;clear e2;obtain⟨bb,e3,hbb,Cc⟩:∃b,g 12=.slice (some ⟨b,0,none⟩) 0 0/\W1.heap.size<=b/\iV w' b 48 []:=hd ⟨7,.data⟩ (by simp) rfl (by decide)
  have hAt:=(hM.O w' (hB1.trans (hb.mono hB1.size))).at_;obtain⟨u,w2,hr,hb2,h0,h⟩:=vF (P:=prog) w' 29 29 48 _ 4 32 underlying29 KO rfl (by decide) (by decide) bb Cc s.aF A3 c3 w'.heap.size (λ_=>rfl) hAt (by omega)
  unfold iT;simp only[execOp,resolve,invoke,builtin,jW,e1,e3,jg,jw,iC,kJ,dn,jL,hr];have bK:Own nP 4 48 w2 W1.heap.size (u) s.aF/\∃gs,qM 23 3 w2 W1.heap.size (g 7) s.on gs:=⟨h0.from_ hbb,e2'.O.2.elim λgs h=>⟨gs,h.below hb2⟩⟩
  exact⟨by simpa[qI,upd]using bK,hb2⟩
 refine dX.cons (iR.one (d:=16) (p:=(λv w'=>∃b,v=.slice (some ⟨b,0,none⟩) 0 0/\W1.heap.size<=b/\iV w' b 3 [])) rfl rfl (λv w1 w2 h hb=>h.elim λb h=>⟨b,h.1,h.2.1,h.2.2.below hb h.2.2.lt⟩) (λg w' hb ho hd=>?_)) ?_
 ·unfold iT;go_simp
  exact⟨⟨hb.size,iV.new _ _ _⟩,(aj _ _).alloc (au _) _⟩
 refine dX.cons (iR.val rfl rfl (λg w' hb ho hd=>?_)) ?_
 ·have e1:=ho 1 rfl;go_simp
 refine dX.cons (iR.val rfl rfl (λg w' hb ho hd=>?_)) ?_
 ·have e1:g 17=.pointer (some ⟨w.heap.size,4,none⟩):=hd ⟨12,.data⟩ (by simp) rfl (by decide)
  obtain⟨_,x0,x1,x2,x3,x4,x5,x6,_⟩:=hK.O w' (hb1.trans (hb.mono hb1.size));go_simp
 refine dX.cons (⟨λg w1 w2 h hb=>h.below hb,λg g' w1 he h=>?_,λg w' hb ho hd=>?_⟩) ?_
 ·have e0:=he 2 _ 7 (.dP (i:=14) (e:=⟨10,.chain⟩) rfl (by simp) rfl rfl (.dP (i:=10) (e:=⟨6,.chain⟩) rfl (by simp) rfl rfl (.dP (i:=6) (e:=⟨2,.chain⟩) rfl (by simp) rfl rfl (.self 2)))) rfl rfl
  have e4:=he 14 _ 19 (.self 14) rfl rfl;simp only[e0,e4]at h
  exact h
 ·have e1:g 18=.slice A4 s.gY.length c4:=hd ⟨13,.data⟩ (by simp) rfl (by decide)
  have e2:Own nP 4 48 w' W1.heap.size (g 15) s.aF/\∃gs,qM 23 3 w' W1.heap.size (g 7) s.on gs:=hd ⟨10,.chain⟩ (by simp) rfl (by decide)
  have e2':=ah e2;clear e2;obtain⟨bb,e3,hbb,Cc⟩:∃b,g 16=.slice (some ⟨b,0,none⟩) 0 0/\W1.heap.size<=b/\iV w' b 3 []:=hd ⟨11,.data⟩ (by simp) rfl (by decide)
  have hAt:=(hI.O w' (hB1.trans (hb.mono hB1.size))).at_;obtain⟨u,w2,hr,hb2,h0,h⟩:=vF (P:=prog) w' 23 23 3 _ 1 8 underlying23 L9 rfl (by decide) (by decide) bb Cc s.gY A4 c4 w'.heap.size (λ_=>rfl) hAt (by rw[jkZ.O];omega)
  unfold iT;simp only[execOp,resolve,invoke,builtin,jW,e1,e3,jg,jw,iC,kJ,dn,jL,hr];replace h:=h (by rw[jkZ.O];omega)
  have bK:F5 w2 W1.heap.size s.on s.gY (g 7) u:=e2'.O.2.elim λgs h8=>F5.of h8 hb.size hb2 h
  exact⟨by simpa[qI,upd]using bK,hb2⟩
 refine dX.cons (iR.one (d:=20) (p:=(λv w'=>∃b,v=.slice (some ⟨b,0,none⟩) 0 0/\W1.heap.size<=b/\iV w' b 3 [])) rfl rfl (λv w1 w2 h hb=>h.elim λb h=>⟨b,h.1,h.2.1,h.2.2.below hb h.2.2.lt⟩) (λg w' hb ho hd=>?_)) ?_
 ·unfold iT;go_simp
  exact⟨⟨hb.size,iV.new _ _ _⟩,(aj _ _).alloc (au _) _⟩
 refine dX.cons (iR.val rfl rfl (λg w' hb ho hd=>?_)) ?_
 ·have e1:=ho 1 rfl;go_simp
 refine dX.cons (iR.val rfl rfl (λg w' hb ho hd=>?_)) ?_
 ·have e1:g 21=.pointer (some ⟨w.heap.size,5,none⟩):=hd ⟨16,.data⟩ (by simp) rfl (by decide)
  obtain⟨_,x0,x1,x2,x3,x4,x5,x6,_⟩:=hK.O w' (hb1.trans (hb.mono hb1.size));go_simp
 refine dX.cons (⟨λg w1 w2 h hb=>h.below hb,λg g' w1 he h=>?_,λg w' hb ho hd=>?_⟩) ?_
 ·have e0:=he 2 _ 7 (.dP (i:=18) (e:=⟨14,.chain⟩) rfl (by simp) rfl rfl (.dP (i:=14) (e:=⟨10,.chain⟩) rfl (by simp) rfl rfl (.dP (i:=10) (e:=⟨6,.chain⟩) rfl (by simp) rfl rfl (.dP (i:=6) (e:=⟨2,.chain⟩) rfl (by simp) rfl rfl (.self 2))))) rfl rfl
  have e4:=he 14 _ 19 (.dP (i:=18) (e:=⟨14,.chain⟩) rfl (by simp) rfl rfl (.self 14)) rfl rfl
  have e5:=he 18 _ 23 (.self 18) rfl rfl;simp only[e0,e4,e5]at h
  exact h
 ·have e1:g 22=.slice A5 s.O.length c5:=hd ⟨17,.data⟩ (by simp) rfl (by decide)
  have e2:F5 w' W1.heap.size s.on s.gY (g 7) (g 19):=hd ⟨14,.chain⟩ (by simp) rfl (by decide)
  have e2':=ah e2;clear e2;obtain⟨bb,e3,hbb,Cc⟩:∃b,g 20=.slice (some ⟨b,0,none⟩) 0 0/\W1.heap.size<=b/\iV w' b 3 []:=hd ⟨15,.data⟩ (by simp) rfl (by decide)
  have hAt:=(hU.O w' (hB1.trans (hb.mono hB1.size))).at_;obtain⟨u,w2,hr,hb2,h0,h⟩:=vF (P:=prog) w' 23 23 3 _ 1 8 underlying23 L9 rfl (by decide) (by decide) bb Cc s.O A5 c5 w'.heap.size (λ_=>rfl) hAt (by rw[jkJ.O];omega)
  unfold iT;simp only[execOp,resolve,invoke,builtin,jW,e1,e3,jg,jw,iC,kJ,dn,jL,hr];replace h:=h (by rw[jkJ.O];omega)
  have bK:FZ w2 W1.heap.size s.on s.gY s.O (g 7) (g 19) u:=FZ.of e2'.O hb.size hb2 h;exact⟨by simpa[qI,upd]using bK,hb2⟩
 refine dX.cons (iR.one (d:=24) (p:=(λv w'=>∃b,v=.slice (some ⟨b,0,none⟩) 0 0/\W1.heap.size<=b/\iV w' b 3 [])) rfl rfl (λv w1 w2 h hb=>h.elim λb h=>⟨b,h.1,h.2.1,h.2.2.below hb h.2.2.lt⟩) (λg w' hb ho hd=>?_)) ?_
 ·unfold iT;go_simp
  exact⟨⟨hb.size,iV.new _ _ _⟩,(aj _ _).alloc (au _) _⟩
 refine dX.cons (iR.val rfl rfl (λg w' hb ho hd=>?_)) ?_
 ·have e1:=ho 1 rfl;go_simp
 refine dX.cons (iR.val rfl rfl (λg w' hb ho hd=>?_)) ?_
 ·have e1:g 25=.pointer (some ⟨w.heap.size,6,none⟩):=hd ⟨20,.data⟩ (by simp) rfl (by decide)
  obtain⟨_,x0,x1,x2,x3,x4,x5,x6,_⟩:=hK.O w' (hb1.trans (hb.mono hb1.size));go_simp
 refine dX.cons (⟨λg w1 w2 h hb=>h.below hb,λg g' w1 he h=>?_,λg w' hb ho hd=>?_⟩) ?_
 ·have e0:=he 2 _ 7 (.dP (i:=22) (e:=⟨18,.chain⟩) rfl (by simp) rfl rfl (.dP (i:=18) (e:=⟨14,.chain⟩) rfl (by simp) rfl rfl (.dP (i:=14) (e:=⟨10,.chain⟩) rfl (by simp) rfl rfl (.dP (i:=10) (e:=⟨6,.chain⟩) rfl (by simp) rfl rfl (.dP (i:=6) (e:=⟨2,.chain⟩) rfl (by simp) rfl rfl (.self 2)))))) rfl rfl
  have e4:=he 14 _ 19 (.dP (i:=22) (e:=⟨18,.chain⟩) rfl (by simp) rfl rfl (.dP (i:=18) (e:=⟨14,.chain⟩) rfl (by simp) rfl rfl (.self 14))) rfl rfl
  have e5:=he 18 _ 23 (.dP (i:=22) (e:=⟨18,.chain⟩) rfl (by simp) rfl rfl (.self 18)) rfl rfl
  have e6:=he 22 _ 27 (.self 22) rfl rfl;simp only[e0,e4,e5,e6]at h
  exact h
 ·have e1:g 26=.slice A6 s.bg.length c6:=hd ⟨21,.data⟩ (by simp) rfl (by decide)
  have e2:FZ w' W1.heap.size s.on s.gY s.O (g 7) (g 19) (g 23):=hd ⟨18,.chain⟩ (by simp) rfl (by decide)
  have e2':=ah e2;clear e2;obtain⟨bb,e3,hbb,Cc⟩:∃b,g 24=.slice (some ⟨b,0,none⟩) 0 0/\W1.heap.size<=b/\iV w' b 3 []:=hd ⟨19,.data⟩ (by simp) rfl (by decide)
  have hAt:=(hX.O w' (hB1.trans (hb.mono hB1.size))).at_;obtain⟨u,w2,hr,hb2,h0,h⟩:=vF (P:=prog) w' 23 23 3 _ 1 8 underlying23 L9 rfl (by decide) (by decide) bb Cc s.bg A6 c6 w'.heap.size (λ_=>rfl) hAt (by rw[ZX.O];omega)
  unfold iT;simp only[execOp,resolve,invoke,builtin,jW,e1,e3,jg,jw,iC,kJ,dn,jL,hr];replace h:=h (by rw[ZX.O];omega)
  have bK:FU w2 W1.heap.size s.on s.gY s.O s.bg (g 7) (g 19) (g 23) u:=FU.of e2'.O hb.size hb2 h;exact⟨by simpa[qI,upd]using bK,hb2⟩
 refine dX.cons (⟨λg w1 w2 h hb=>h,λg g' w1 he h=>?_,λg w' hb ho hd=>?_⟩) ?_
 ·have es:=he 23 _ 28 (.self 23) rfl rfl;have e0:=he 2 _ 7 (.dP (i:=23) (e:=⟨2,.data⟩) rfl (by simp) rfl rfl (.self 2)) rfl rfl
  have e2:=he 6 _ 11 (.dP (i:=23) (e:=⟨6,.data⟩) rfl (by simp) rfl rfl (.self 6)) rfl rfl
  have e3:=he 10 _ 15 (.dP (i:=23) (e:=⟨10,.data⟩) rfl (by simp) rfl rfl (.self 10)) rfl rfl
  have e4:=he 14 _ 19 (.dP (i:=23) (e:=⟨14,.data⟩) rfl (by simp) rfl rfl (.self 14)) rfl rfl
  have e5:=he 18 _ 23 (.dP (i:=23) (e:=⟨18,.data⟩) rfl (by simp) rfl rfl (.self 18)) rfl rfl
  have e6:=he 22 _ 27 (.dP (i:=23) (e:=⟨22,.data⟩) rfl (by simp) rfl rfl (.self 22)) rfl rfl
  change g' 28=.agg #[g' 7,.slice none 0 0,g' 11,g' 15,g' 19,g' 23,g' 27];rw[<- es,<- e0,<- e2,<- e3,<- e4,<- e5,<- e6];exact h
 ·obtain⟨B0,d0,s0⟩:∃A c,g 7=.slice A s.on.length c:=(hd ⟨2,.data⟩ (by simp) rfl (by decide):∃gs,qM 23 3 w' W1.heap.size (g 7) s.on gs).elim λgs h=>h.isSlice
  obtain⟨B2,d2,s2⟩:=(hd ⟨6,.data⟩ (by simp) rfl (by decide):Own ig 4 46 w' W1.heap.size (g 11) s.aA/\∃gs,qM 23 3 w' W1.heap.size (g 7) s.on gs).1.isSlice
  obtain⟨B3,d3,s3⟩:=(hd ⟨10,.data⟩ (by simp) rfl (by decide):Own nP 4 48 w' W1.heap.size (g 15) s.aF/\∃gs,qM 23 3 w' W1.heap.size (g 7) s.on gs).1.isSlice
  obtain⟨B4,d4,s4⟩:=(hd ⟨14,.data⟩ (by simp) rfl (by decide):F5 w' W1.heap.size s.on s.gY (g 7) (g 19)).isSlice
  obtain⟨B5,d5,s5⟩:=(hd ⟨18,.data⟩ (by simp) rfl (by decide):FZ w' W1.heap.size s.on s.gY s.O (g 7) (g 19) (g 23)).isSlice
  obtain⟨B6,d6,s6⟩:=(hd ⟨22,.data⟩ (by simp) rfl (by decide):FU w' W1.heap.size s.on s.gY s.O s.bg (g 7) (g 19) (g 23) (g 27)).isSlice
  unfold iT;go_simp
  exact⟨by simp[qI,upd,s0,s2,s3,s4,s5,s6],aj _ _⟩
 refine dX.cons (iR.one (d:=3) (p:=(λv w'=>∃b,v=.pointer (some ⟨b,0,none⟩)/\W1.heap.size<=b/\jk w' b ⟨mJ,mJ,mJ,mJ,mJ,mJ,mJ,[],[]⟩)) rfl rfl (λv w1 w2 h hb=>h.elim λb h=>⟨b,h.1,h.2.1,h.2.2.below hb h.2.2.lt⟩) (λg w' hb ho hd=>?_)) ?_
 ·unfold iT;go_simp
  exact⟨⟨hb.size,iV.new _ _ _⟩,(aj _ _).alloc (au _) _⟩
 exact dX.nil;obtain⟨r0,r1,r2,⟨bs3,r3,_,_⟩,r4,r5,r6,⟨bs7,r7,_,_⟩,r8,r9,r10,⟨bs11,r11,_,_⟩,r12,r13,kK,⟨bs15,r15,_,_⟩,r16,r17,r18,⟨bs19,r19,_,_⟩,r20,r21,r22,r23,⟨b,r24,hbb,E5⟩,_⟩:=hR;simp only[kG,zB,bC,bV,eG,gW,eX,fF,fB,gV,bM,dF,dL,r0,r1,r3,r4,r5,r7,r8,r9,r11,r12,r13,r15,r16,r17,r19,r20,r21,r23,r24];obtain⟨B0,d0,s0⟩:=r22.jbI;obtain⟨B2,d2,s2⟩:=r6.1.isSlice;obtain⟨B3,d3,s3⟩:=r10.1.isSlice;obtain⟨B4,d4,s4⟩:=kK.isSlice;obtain⟨B5,d5,s5⟩:=r18.isSlice;obtain⟨B6,d6,s6⟩:=r22.isSlice;obtain⟨vs,lC⟩:=r22.made r6.1 r10.1;simp only[s0,s2,s3,s4,s5,s6]at lC ⊢
 have hO2:=ah lC;clear lC s0 s2 s3 s4 s5 s6;clear r0 r1 r2 r3 r4 r5 r6 r7 r8 r9 r10 r11 r12 r13 kK r15 r16 r17 r18 r19 r20 r21 r22 r23 r24;refine dB (.tmp 3) (.tmp 28) _ ⟨.slice B0 s.on.length d0,mJ,.slice B2 s.aA.length d2,.slice B3 s.aF.length d3,.slice B4 s.gY.length d4,.slice B5 s.O.length d5,.slice B6 s.bg.length d6,vs,[]⟩ rfl E5 rfl rfl (λw3 Nb hg3=>?_)
 have hbw:Below W1.heap.size W1 w3:=hb2.grown hg3 hb2.size (λk hk=>by injection hk with hk;omega)
 have hO3:dK w3 W1.heap.size ⟨.slice B0 s.on.length d0,mJ,.slice B2 s.aA.length d2,.slice B3 s.aF.length d3,.slice B4 s.gY.length d4,.slice B5 s.O.length d5,.slice B6 s.bg.length d6,vs,[]⟩ (upTo s 0):=
  hO2.O.keptBy hg3 E5.blk (by decide) (by decide) (by decide) (by decide) (by decide) (by decide)
 have jjc:=ah hO3;have N9:=ah Nb;clear hO3 hO2 E5 Nb hg3 hb2;have jb3:=hb1.trans (hbw.mono hb1.size);obtain⟨_,x0,x1,x2,x3,x4,x5,x6,_⟩:=hK.O w3 jb3;refine fC ?_
 go_wp2_with fail;go_loopw[4] (λi wr=>∃(k:Nat) (V:SV),k<=s.ak.length/\i=.int .i64 k/\dK wr W1.heap.size V (upTo s k)/\jk wr b V/\Below W1.heap.size W1 wr) (λi _=>s.ak.length - (RowKit.intOf i).toNat)
 case atStart=>exact⟨0,_,aK _,rfl,jjc.O,N9.O,hbw⟩
 case round=>
  clear x0 x1 x2 x3 x4 x5 x6 hbw jb3 jjc N9;obtain⟨k,V,hk,rfl,hOw,hbx,hbw⟩:=hrel;have H7:=ah hOw;have AZ:=ah hbx;clear hOw hbx;have hB:=hB1.trans (hbw.mono hB1.size);have jb3:=hb1.trans (hbw.mono hb1.size);obtain⟨_,x0,x1,x2,x3,x4,x5,x6,_⟩:=hK.O wr jb3;by_cases hlt:k<s.ak.length
  ·obtain⟨A',c',Jh,Gs,e0,e1,hsl⟩:=(hO.O W1 hB1).aC hlt;obtain⟨l1,l3⟩:=zy.O.tN hlt;change 1<=(aU s.ak k).aH.length at l1
   change(aU s.ak k).aH.length<=3 at l3
   have hkl:(k:Int)<(s.ak.length:Int):=by omega
   have hk0:(0:Int)<=(k:Int):=by omega
   have e0':=ah e0;have e1':=ah e1;have jkL:=ah hsl;clear e0 e1 hsl;obtain⟨Ao,co,Ph⟩:=H7.O.ak.isSlice;have jrG:=ah Ph;have vS:=ah (λr (hr:V.ak.ownBlock=some r)=>H7.O.ak.size r hr)
   have hTB:=ah (λw' (hT:wr.grownBy w' V.ak.ownBlock)=>(hbw.grown hT hbw.size (λr hr=>(vS.O r hr).1):Below W1.heap.size W1 w'))
   have Jk:=ah (show some b≠V.ak.ownBlock from λhe=>by
    rcases H7.O.ak.mQ AZ.O.blk (by decide)with h|h
    ·rw[h]at he;cases he
    ·exact h he.symm)
   have hnew:=ah (λg (hg:wr.heap.size<=g)=>(show some g≠V.ak.ownBlock from λhe=>by have:=(vS.O g he.symm).2;omega))
   have hlo:(zI (upTo s k).ak V.aH).length<=1000000:=by
    rw[uJ H7.O.llen];show(s.ak.take k).length<=1000000;rw[bT];omega
   go_wp2_with fail;clear Ph;refine Fa 20 (λw'=>wr.grownBy w' V.ak.ownBlock) (λw'=>Below wr.heap.size wr w') (λw1 w2=>w1.grownBy w2 V.ak.ownBlock) 18 [
    λg _=>g 36=.pointer (some ⟨b,1,none⟩),λg _=>g 37=.slice Ao (zI (upTo s k).ak V.aH).length co,λg _=>g 38=.pointer (some ⟨w.heap.size,1,none⟩),λg _=>g 39=.slice A1 s.ak.length c1,λg _=>g 40=.int .i64 k,λg _=>g 41=.pointer (some ⟨jd A1,ou A1+k*2,none⟩),λg _=>g 42=.pointer (some ⟨jd A1,ou A1+k*2,none⟩),λg _=>g 43=.int .i64 (aU s.ak k).dW,λg w'=>(λv w'=>∃b,v=.slice (some ⟨b,0,none⟩) 0 0/\wr.heap.size<=b/\iV w' b 44 []) (g 44) w',λg _=>g 45=.pointer (some ⟨w.heap.size,1,none⟩),λg _=>g 46=.slice A1 s.ak.length c1,λg _=>g 47=.int .i64 k,λg _=>g 48=.pointer (some ⟨jd A1,ou A1+k*2,none⟩),λg _=>g 49=.pointer (some ⟨jd A1,ou A1+k*2+1,none⟩),λg _=>g 50=.slice A' (aU s.ak k).aH.length c',λg w'=>(λv w'=>Own kP 4 44 w' wr.heap.size v (aU s.ak k).aH) (g 51) w',λg w'=>g 52=.agg #[.int .i64 (aU s.ak k).dW,g 51]/\Own kP 4 44 w' wr.heap.size (g 51) (aU s.ak k).aH,λg w'=>(∃b,g 53=.slice (some ⟨b,0,none⟩) 1 1/\wr.heap.size<=b/\iV w' b 42 [.int .i64 (aU s.ak k).dW,g 51])/\Own kP 4 44 w' wr.heap.size (g 51) (aU s.ak k).aH,λg w'=>Own Nl 2 42 w' W1.heap.size (g 54) ((zI (upTo s k).ak V.aH)++[((aU s.ak k).dW,g 51)])/\Own kP 4 44 w' wr.heap.size (g 51) (aU s.ak k).aH,λg _=>g 55=.pointer (some ⟨b,1,none⟩)] (by kernel_rfl) (by kernel_rfl) rfl (by kernel_rfl)
    (λw1 w2 h hb=>JX h (nV hb)) (λw1 w2 h h'=>JX h h') (λw1 w2 h hb=>h.trans (hb.mono h.size)) (nV (aj _ _).drew) (aj _ _).drew ?_ (λf w2 hT hR=>?_)
   ·simp only[bC,bV];refine iW.cons (mX.val rfl rfl (by decide) (λg w' hT ho hd=>?_)) ?_
    ·have e1:=ho 3 rfl;go_simp
    refine iW.cons (mX.val rfl rfl (by decide) (λg w' hT ho hd=>?_)) ?_
    ·have e1:g 36=.pointer (some ⟨b,1,none⟩):=hd ⟨0,.data⟩ (by simp) rfl (by decide)
     have y1:=(AZ.O.grown hT Jk.O).cells.2.1;rw[jrG.O]at y1
     go_simp
    refine iW.cons (mX.val rfl rfl (by decide) (λg w' hT ho hd=>?_)) ?_
    ·have e1:=ho 1 rfl;go_simp
    refine iW.cons (mX.val rfl rfl (by decide) (λg w' hT ho hd=>?_)) ?_
    ·have e1:g 38=.pointer (some ⟨w.heap.size,1,none⟩):=hd ⟨2,.data⟩ (by simp) rfl (by decide)
     obtain⟨_,x0,x1,x2,x3,x4,x5,x6,_⟩:=hK.O w' (hb1.trans ((hTB.O w' hT).mono hb1.size));go_simp
    refine iW.cons (mX.val rfl rfl (by decide) (λg w' hT ho hd=>?_)) ?_
    ·have e1:=ho 4 rfl;go_simp
    refine iW.cons (mX.val rfl rfl (by decide) (λg w' hT ho hd=>?_)) ?_
    ·have e1:g 39=.slice A1 s.ak.length c1:=hd ⟨3,.data⟩ (by simp) rfl (by decide)
     have e2:g 40=.int .i64 k:=hd ⟨4,.data⟩ (by simp) rfl (by decide)
     go_simp
    refine iW.cons (mX.val rfl rfl (by decide) (λg w' hT ho hd=>?_)) ?_
    ·have e1:g 41=.pointer (some ⟨jd A1,ou A1+k*2,none⟩):=hd ⟨5,.data⟩ (by simp) rfl (by decide)
     go_simp
    refine iW.cons (mX.val rfl rfl (by decide) (λg w' hT ho hd=>?_)) ?_
    ·have e1:g 42=.pointer (some ⟨jd A1,ou A1+k*2,none⟩):=hd ⟨6,.data⟩ (by simp) rfl (by decide)
     have y1:=((hTB.O w' hT).cell (p:=⟨jd A1,ou A1+k*2,none⟩) Gs).trans e0'.O;go_simp
    refine iW.cons (mX.one (d:=44) (p:=λv w'=>∃b,v=.slice (some ⟨b,0,none⟩) 0 0/\wr.heap.size<=b/\iV w' b 44 []) rfl rfl (by decide) (λv w1 w2 h hb=>h.elim λb h=>⟨b,h.1,h.2.1,h.2.2.below hb h.2.2.lt⟩) (λv w1 w2 h hb=>h.elim λb h=>⟨b,h.1,h.2.1,h.2.2.grown hb (hnew.O b h.2.1)⟩) (λg w' hT ho hd=>?_)) ?_
    ·unfold iT;go_simp
     exact⟨⟨hT.size,iV.new _ _ _⟩,(aj _ _).alloc (au _) _⟩
    refine iW.cons (mX.val rfl rfl (by decide) (λg w' hT ho hd=>?_)) ?_
    ·have e1:=ho 1 rfl;go_simp
    refine iW.cons (mX.val rfl rfl (by decide) (λg w' hT ho hd=>?_)) ?_
    ·have e1:g 45=.pointer (some ⟨w.heap.size,1,none⟩):=hd ⟨9,.data⟩ (by simp) rfl (by decide)
     obtain⟨_,x0,x1,x2,x3,x4,x5,x6,_⟩:=hK.O w' (hb1.trans ((hTB.O w' hT).mono hb1.size));go_simp
    refine iW.cons (mX.val rfl rfl (by decide) (λg w' hT ho hd=>?_)) ?_
    ·have e1:=ho 4 rfl;go_simp
    refine iW.cons (mX.val rfl rfl (by decide) (λg w' hT ho hd=>?_)) ?_
    ·have e1:g 46=.slice A1 s.ak.length c1:=hd ⟨10,.data⟩ (by simp) rfl (by decide)
     have e2:g 47=.int .i64 k:=hd ⟨11,.data⟩ (by simp) rfl (by decide)
     go_simp
    refine iW.cons (mX.val rfl rfl (by decide) (λg w' hT ho hd=>?_)) ?_
    ·have e1:g 48=.pointer (some ⟨jd A1,ou A1+k*2,none⟩):=hd ⟨12,.data⟩ (by simp) rfl (by decide)
     go_simp
    refine iW.cons (mX.val rfl rfl (by decide) (λg w' hT ho hd=>?_)) ?_
    ·have e1:g 49=.pointer (some ⟨jd A1,ou A1+k*2+1,none⟩):=hd ⟨13,.data⟩ (by simp) rfl (by decide)
     have y1:=((hTB.O w' hT).cell (p:=⟨jd A1,ou A1+k*2+1,none⟩) Gs).trans e1'.O;go_simp
    refine iW.cons (mX.one (d:=51) (p:=λv w'=>Own kP 4 44 w' wr.heap.size v (aU s.ak k).aH) rfl rfl (by decide) (λv w1 w2 h hb=>Own.below h hb) (λv w1 w2 h hb=>Own.kept h hb (ZF h hnew.O)) (λg w' hT ho hd=>?_)) ?_
    ·have e1:g 50=.slice A' (aU s.ak k).aH.length c':=hd ⟨14,.data⟩ (by simp) rfl (by decide)
     obtain⟨bb,e3,S9,Cc⟩:∃b,g 44=.slice (some ⟨b,0,none⟩) 0 0/\wr.heap.size<=b/\iV w' b 44 []:=hd ⟨8,.data⟩ (by simp) rfl (by decide)
     have hBw:=hTB.O w' hT;have hAt:=(jkL.O.up hBw hBw.size).at_;obtain⟨u,w3,hr,hb3,h0,h⟩:=vF (P:=prog) w' 32 32 44 _ 4 32 underlying32 NR rfl (by decide) (by decide) bb Cc (aU s.ak k).aH A' c' w'.heap.size (λ_=>rfl) hAt (by omega)
     unfold iT;simp only[execOp,resolve,invoke,builtin,jW,e1,e3,jg,jw,iC,kJ,dn,jL,hr];exact⟨(h (by omega)).from_ hT.size,hb3⟩
    refine iW.cons ⟨λg w1 w2 h hb=>⟨h.1,h.2.below hb⟩,λ_ g w1 w2 h hb=>⟨h.1,h.2.kept hb (ZF h.2 hnew.O)⟩,λg g' w1 he h=>?_,λg w' hT _ ho hd=>?_⟩ ?_
    ·have e52:=he 16 _ 52 (.self 16) rfl rfl;have e51:=he 15 _ 51 (.dP (i:=16) (e:=⟨15,.data⟩) rfl (by simp) rfl rfl (.self 15)) rfl rfl
     simp only[e51,e52]at h
     exact h
    ·have e1:g 43=.int .i64 (aU s.ak k).dW:=hd ⟨7,.data⟩ (by simp) rfl (by decide)
     have e2:Own kP 4 44 w' wr.heap.size (g 51) (aU s.ak k).aH:=hd ⟨15,.data⟩ (by simp) rfl (by decide)
     obtain⟨Au,cu,s51⟩:=e2.isSlice;have e2':=ah e2;clear e2;unfold iT;go_simp
     refine⟨⟨by simp[qI,upd,s51],?_⟩,aj _ _⟩
     have:=e2'.O;simpa[qI,upd,s51]using this
    refine iW.cons ⟨λg w1 w2 h hb=>⟨h.1.elim λb h=>⟨b,h.1,h.2.1,h.2.2.below hb h.2.2.lt⟩,h.2.below hb⟩,λ_ g w1 w2 h hb=>⟨h.1.elim λb h=>⟨b,h.1,h.2.1,h.2.2.grown hb (hnew.O b h.2.1)⟩,h.2.kept hb (ZF h.2 hnew.O)⟩,λg g' w1 he h=>?_,λg w' hT _ ho hd=>?_⟩ ?_
    ·have e53:=he 17 _ 53 (.self 17) rfl rfl;have e51:=he 15 _ 51 (.dP (i:=17) (e:=⟨16,.data⟩) rfl (by simp) rfl rfl (.dP (i:=16) (e:=⟨15,.data⟩) rfl (by simp) rfl rfl (.self 15))) rfl rfl
     simp only[e51,e53]at h
     exact h
    ·have e1:g 52=.agg #[.int .i64 (aU s.ak k).dW,g 51]/\Own kP 4 44 w' wr.heap.size (g 51) (aU s.ak k).aH:=hd ⟨16,.data⟩ (by simp) rfl (by decide)
     obtain⟨e3,e2⟩:=e1;obtain⟨Au,cu,s51⟩:=e2.isSlice;have e2':=ah e2;clear e2;rw[s51]at e3
     unfold iT;go_simp
     refine⟨⟨⟨w'.heap.size,by simp[qI,upd],hT.size,?_⟩,?_⟩,(aj _ _).alloc (au _) _⟩
     ·have:=iV.new w' 42 #[.int .i64 (aU s.ak k).dW,.slice Au (aU s.ak k).aH.length cu];simpa[qI,upd,s51]using this
     ·have:=e2'.O.alloc (.cells #[.int .i64 (aU s.ak k).dW,.slice Au (aU s.ak k).aH.length cu] 42);simpa[qI,upd,s51]using this
    refine iW.cons ⟨λg w1 w2 h hb=>⟨h.1.below hb,h.2.below hb⟩,λhne=>absurd rfl hne,λg g' w1 he h=>?_,λg w' hT hJ ho hd=>?_⟩ ?_
    ·have e54:=he 18 _ 54 (.self 18) rfl rfl;have e51:=he 15 _ 51 (.dP (i:=18) (e:=⟨15,.chain⟩) rfl (by simp) rfl rfl (.self 15)) rfl rfl
     simp only[e51,e54]at h
     exact h
    ·have e1:g 37=.slice Ao (zI (upTo s k).ak V.aH).length co:=hd ⟨1,.data⟩ (by simp) rfl (by decide)
     obtain⟨⟨gb,e3,hgb,Cc⟩,e2⟩:(∃b,g 53=.slice (some ⟨b,0,none⟩) 1 1/\wr.heap.size<=b/\iV w' b 42 [.int .i64 (aU s.ak k).dW,g 51])/\Own kP 4 44 w' wr.heap.size (g 51) (aU s.ak k).aH:=hd ⟨17,.data⟩ (by simp) rfl (by decide)
     have lC:=H7.O.ak.below (hJ rfl);obtain⟨i,hi,hz,G8,hbytes⟩:=O9;have hone:=qO e2;obtain⟨v',w3,hr,hown3,hg3,_,_⟩:=run_append_own_at (P:=prog) w' W1.heap.size 27 27 42 i _ 2 32 underlying27 hi hz G8 hbytes rfl (by decide) V.ak _ _ lC ⟨gb,0,none⟩ 1 1 (Nl ((aU s.ak k).dW,g 51)) rfl
      (λj u hj=>by rw[gU,eY];exact Cc.cell hj) (ZJ _ hone) (by unfold maxLen;omega) (by omega) (aY hbw.size hT.size)
     rw[jrG.O]at hr
     unfold iT;simp only[execOp,resolve,invoke,builtin,jW,e1,e3,jg,jw,iC,kJ,dn,jL,hr];refine⟨⟨?_,?_⟩,.inr ⟨trivial,hg3⟩⟩
     ·have h2:Own Nl 2 42 w3 W1.heap.size v' ((zI (upTo s k).ak V.aH)++[((aU s.ak k).dW,g 51)]):=by
       unfold Own;rw[aZ,gy];simpa using hown3
      simpa[qI,upd]using h2
     ·have h2:=e2.kept hg3 (ZF e2 hnew.O);simpa[qI,upd]using h2
    refine iW.cons (mX.val rfl rfl (by decide) (λg w' hT ho hd=>?_)) ?_
    ·have e1:=ho 3 rfl;go_simp
    exact iW.nil
   ·obtain⟨r0,r1,r2,r3,r4,r5,r6,r7,⟨bb,r8,_,_⟩,r9,r10,r11,r12,r13,kK,r15,⟨r16,_⟩,⟨⟨gb,r17,_,_⟩,_⟩,⟨hv,hu⟩,r19,_⟩:=hR;simp only[kG,zB,bC,bV,eG,gW,eX,fF,fB,gV,bM,dF,dL,r0,r1,r2,r3,r4,r5,r6,r7,r8,r9,r10,r11,r12,r13,kK,r16,r17,r19];have X6:=H7.O.jdp hT (x:=aU s.ak k) (hu.from_ hbw.size) (λg hg=>(hu.size g hg).1) hv
    have FV:=AZ.O.grown hT Jk.O;have QA:=hTB.O w2 hT;obtain⟨Av,cv,hv7⟩:=hv.isSlice;obtain⟨Au,cu,hu7⟩:=hu.isSlice;simp only[aZ,dw,dY,eY]at hv7
    simp only[hv7,hu7];obtain⟨vv,hvv⟩:∃x,x=f 54:=⟨_,rfl⟩;have Xw:=X6.box FV 1 vv;have Jm:=FV.Yu vv;rw[<- Ym hlt]at Xw
    have jaf:=QA.setCell (p:=⟨b,1,none⟩) hbb vv;rw[hvv,hv7]at Xw Jm jaf
    rw[hu7]at Xw
    have jak:=ah Xw;have Oh:=ah Jm;have q1:=FV.cells.2.1;have qf:=FV.frozen 1;clear Xw Jm X6 FV hv hu hv7 hu7 r0 r1 r2 r3 r4 r5 r6 r7 r8 r9 r10 r11 r12 r13 kK r15 r16 r17 r19 hvv vv hlo hT Jh Gs;go_wp2_with fail;go_roundw
    case rel=>exact⟨k+1,_,by omega,by go_num,jak.O,Oh.O,jaf⟩
    case measure=>simp[RowKit.intOf];omega
  ·obtain rfl:k=s.ak.length:=by omega
   rw[jaU]at H7
   have hR1:iV wr (w.heap.size+1) _ _:=hsE.O ▸ jji.O.below hbw hs1;have hfz:=hR1.frozen;obtain⟨b0,b1,b2,b3,b4,b5,b6⟩:=AZ.O.cells;have hone:V.cells.all (λu=>u.oneCell')=true:=by
    have h:=H7.O;simp[SV.cells,qO h.on,qO h.ak,qO h.aA,qO h.aF,qO h.gY,qO h.O,qO h.bg]
   have Qz:jk wr (w.heap.size+1) ⟨mJ,mJ,mJ,mJ,mJ,mJ,mJ,[],[]⟩:=hR1;clear hfz;go_wp2_with (refine dB (.tmp 2) (.tmp 56) _ V rfl Qz rfl hone (λw9 dM je=>?_))
   have wC:=H7.O.keptBy je Qz.blk (by decide) (by decide) (by decide) (by decide) (by decide) (by decide)
   obtain⟨p0,p1,p2,p3,p4,p5,p6⟩:=dM.cells;have hbz:w.heap.size<=w.heap.size+1:=by omega
   have bK:Below w.heap.size w w9:=hB.grown je hB.size (λk hk=>by injection hk with hk;omega)
   have hsB:w.heap.size<=W1.heap.size:=hB1.size;clear b0 b1 b2 b3 b4 b5 b6;go_wp2_with fail;exact fD (v:=V.val) (by simp[results,results16,go_sem,SV.val,p0,p1,p2,p3,p4,p5,p6]) rfl ⟨_,rfl,⟨V,rfl,wC.from_ hsB⟩,bK⟩
end Wh
namespace Wh
open Go Go.RowKit
section
variable {P:Program} {l:List Oper} {n:Nat} {R:Nat→Nat→(Nat→Value)→World→Prop} {Q:Exit→Act→World→Prop} {a:Act} {w:World}
def TM(b1 b2:Nat)(dJ:Array Bool):Nat:=(if dJ.getD b1 false=true then 1 else 0)+(if dJ.getD b2 false=true then 1 else 0)
def zM(b1 b2 i ph:Nat):Nat:=if i=b1 then 1 else if i=b2 then 2 else ph
def bkN(b1 b2 k:Nat):Nat:=if k=0 then b1 else b2
def Xr(P:Program)(l:List Oper)(n:Nat)(R:Nat->Nat->(Nat->Value)->World->Prop)(Q:Exit->Act->World->Prop)(a:Act)(T:World->Prop)(Eb:Nat->World->World->Prop)(b1 b2 i:Nat)(o:Oper):Prop:=
 ∀ph f w',T w'->(i=b1->ph=0)->(i=b2->ph=1)->Iz n (R ph) f w' o->
  o.wp P (kG a (l.take n) f) w' (λa' w''=>∃v,a'=(kG a (l.take n) f).put o.dst v/\R (zM b1 b2 i ph) i (qI f o.dst v) w''/\((i≠b1/\i≠b2/\Below w'.heap.size w' w'')\/(i=b1/\Eb 0 w' w'')\/(i=b2/\Eb 1 w' w''))) Q
theorem jhD{T:World->Prop}{Eb:Nat->World->World->Prop}{b1 b2:Nat}(BG:b1≠b2)(h1n:b1<n)(h2n:b2<n)(hw:∀o,l[b2]?=some o->∃e∈o.after,Region.binds .any e=true/\e.on=b1)(hT1:∀w1 w2,T w1->Below w1.heap.size w1 w2->T w2)(hT2:∀k w1 w2,T w1->Eb k w1 w2->T w2)(hle:n<=l.length)(NU:∀dJ,HeadInv .any l.toArray n dJ->∀i,i<n->dJ.getD i true=false->∀t,n<=t->t ∉ Region.ready .any l.toArray dJ)(hseq:Region.seqB .any l.toArray (l.length - n) n (KU l.length n)=true)
  (hg:∀i o,i<n->l[i]?=some o->o.guard=none) (hnd:((l.take n).filterMap (·.dst)).Nodup) (yw:∀i o,i<n->l[i]?=some o->∀e∈o.after,Region.binds .any e=true->e.on<i)
  (hst:∀ph i g w1 w2,R ph i g w1->Below w1.heap.size w1 w2->R ph i g w2) (hst2:∀k i g w1 w2,k<=1->i≠bkN b1 b2 k->R k i g w1->Eb k w1 w2->R (k+1) i g w2) (yg:∀ph i g g' w,(∀j o d,JD l j i->l[j]?=some o->o.dst=some d->g d=g' d)->R ph i g w->R ph i g' w) (AV:∀i o,i<n->l[i]?=some o->Xr P l n R Q a T Eb b1 b2 i o)
  (hend:∀f w',T w'->(∀i,i<n->R 2 i f w')->wpList P l.toArray Q (l.drop n) (kG a (l.take n) f) w'):
  ∀(k:Nat) (dJ:Array Bool) (f:Nat->Value) (w':World),HeadInv .any l.toArray n dJ->Sj dJ n=k->T w'->(∀i,i<n->dJ.getD i false=true->R (TM b1 b2 dJ) i f w')->
   wpAny P .any l.toArray Q (k+(l.length - n)) dJ (kG a (l.take n) f) w'
 |0,dJ,f,w',inv,hk,hb,hR=>by
  have hsz:dJ.size=l.length:=by rw[inv.size];simp
  have he:dJ=KU l.length n:=by
   apply nO;intro i;unfold KU;rw[sH]
   simp only[tK];by_cases hi:i<n
   ·rw[aB hi];have h1:=D9 hk hi;have h2:i<dJ.size:=by omega
    simp[hi,h2,Array.getD]at h1 ⊢
    exact h1
   ·rw[ay hi];by_cases hl:i<l.length
    ·have h1:=inv.tail i (by omega) (by simpa using hl)
     have h2:i<dJ.size:=by omega
     have h3:i - n<l.length - n:=by omega
     simp[h2,h3,Array.getD]at h1 ⊢
     exact h1
    ·rw[fZ (by omega),fZ (by simp;omega)]
  have hd:l.length - n=(l.drop n).length:=by simp
  have h3:TM b1 b2 dJ=2:=by
   have key:∀b,b<n->dJ.getD b false=true:=λb hb=>by
    have h1:=D9 hk hb;have h2:b<dJ.size:=by omega
    simp[h2,Array.getD]at h1 ⊢
    exact h1
   unfold TM;rw[aB (key _ h1n),aB (key _ h2n)]
  rw[h3]at hR
  rw[eY,hd];refine wpAny_of_seq (l.drop n) n dJ _ w' (λj=>by simp) (by rw[he,<- hd];exact hseq) (hend f w' hb λi hin=>hR i hin ?_)
  have h1:=D9 hk hin;have h2:i<dJ.size:=by omega
  simp[h2,Array.getD]at h1 ⊢
  exact h1
 |k+1,dJ,f,w',inv,hk,hb,hR=>by
  have hsz:dJ.size=l.length:=by rw[inv.size];simp
  obtain⟨i0,hi0,hu0⟩:=UL (show 0<Sj dJ n by omega)
  have hne:∀i,i<n->dJ.getD i true=false->Region.ready .any l.toArray dJ≠[]:=by
   intro i;induction i using Nat.strongRecOn with
   |_ i ih=>
    intro hin hu;have hil:i<l.length:=by omega
    by_cases kE:∀e∈(l[i]).after,Region.binds .any e=true->dJ.getD e.on false=true
    ·have:i∈Region.ready .any l.toArray dJ:=nR.2 ⟨hu,l[i],by simp[hil],kE⟩
     intro h0;rw[h0]at this
     cases this
    ·simp only[tJ]at kE
     obtain⟨e,he,hbd,hno⟩:=kE;have hlt:=yw i l[i] hin (by simp[hil]) e he hbd
     exact ih e.on hlt (by omega) (getD_in (by omega) (by simpa using hno))
  rw[show k+1+(l.length - n)=(k+(l.length - n))+1 by omega]
  refine⟨λh0=>absurd h0 (hne i0 hi0 hu0),λi hi=>?_⟩
  have hin:i<n:=by
   rcases rO i n with h|h
   ·exact h
   ·exact absurd hi (NU dJ inv i0 hi0 hu0 i h)
  obtain⟨hu,o,ho,kE⟩:=nR.1 hi;have ho':l[i]?=some o:=by simpa using ho
  have hgd:=hg i o hin ho';have hoff:i=b1->dJ.getD b1 false=false/\dJ.getD b2 false=false:=λe=>by
   have h1:dJ.getD b1 false=false:=by rw[<- e];exact getD_both hu
   refine⟨h1,?_⟩
   cases h2:dJ.getD b2 false
   ·rfl
   ·have hl2:b2<l.length:=by omega
    obtain⟨e',he',hbd,hon⟩:=hw l[b2] (by simp[hl2])
    have:=inv.closed b2 l[b2] (by simp[hl2]) h2 e' he' hbd
    rw[hon,h1]at this
    cases this
  have jbV:i=b2->dJ.getD b1 false=true/\dJ.getD b2 false=false:=λe=>by
   have h2:dJ.getD b2 false=false:=by rw[<- e];exact getD_both hu
   obtain⟨e',he',hbd,hon⟩:=hw o (by rw[<- e];exact ho')
   have:=kE e' he' hbd;rw[hon]at this
   exact⟨this,h2⟩
  have jbQ:i=b1->TM b1 b2 dJ=0:=λe=>by
   obtain⟨h1,h2⟩:=hoff e;unfold TM;rw[h1,h2];rfl
  have jbP:i=b2->TM b1 b2 dJ=1:=λe=>by
   obtain⟨h1,h2⟩:=jbV e;unfold TM;rw[h1,h2];rfl
  have h1:=AV i o hin ho' (TM b1 b2 dJ) f w' hb jbQ jbP λe he hbd hen=>hR e.on hen (kE e he hbd)
  unfold wpOp;simp only[ho];rw[aB (by simp[Region.wanted,hgd])]
  refine .inl (oD ?_ h1)
  rintro a' w'' ⟨v,rfl,hv,hbw⟩;have hcount:Sj (dJ.setIfInBounds i true) n=k:=by
   have:=UK hu n;rw[aB hin]at this
   omega
  have hb2:T w'':=by
   rcases hbw with⟨_,_,hbw⟩|⟨_,hbw⟩|⟨_,hbw⟩
   ·exact hT1 _ _ hb hbw
   ·exact hT2 _ _ _ hb hbw
   ·exact hT2 _ _ _ hb hbw
  have Z4:TM b1 b2 (dJ.setIfInBounds i true)=zM b1 b2 i (TM b1 b2 dJ):=by
   unfold TM zM;by_cases e1:i=b1
   ·obtain⟨q1,q2⟩:=hoff e1;subst e1;rw[BK false (II hu),kT false BG,q2];simp
   ·by_cases e2:i=b2
    ·obtain⟨q1,q2⟩:=jbV e2;subst e2;rw[BK false (II hu),kT false e1,q1];simp[e1]
    ·rw[kT false e1,kT false e2,ay e1,ay e2]
  have MG:∀j k,JD l j k->k<n->dJ.getD k false=true->j<n/\dJ.getD j false=true:=by
   intro j k h;induction h with
   |self=>exact λh1 h2=>⟨h1,h2⟩
   |dP ho he hbd hon _ ih=>
    intro h1 h2;subst hon;have:=yw _ _ h1 ho _ he hbd;exact ih (by omega) (inv.closed _ _ (by simpa using ho) h2 _ he hbd)
  have bK:(kG a (l.take n) f).put o.dst v=kG a (l.take n) (qI f o.dst v):=by
   cases hdst:o.dst with
   |none=>rfl
   |some d0=>
    unfold kG Act.put qI;simp only;rw[Pj (Eo ho' hin hdst)]
  rw[bK];refine jhD BG h1n h2n hw hT1 hT2 hle NU hseq hg hnd yw hst hst2 yg AV hend k _ (qI f o.dst v) w'' (inv.set hi hin) hcount hb2 λj hjn hl=>?_
  rw[Z4];by_cases hij:i=j
  ·subst hij;exact hv
  ·rw[kT false hij]at hl
   refine yg _ j f _ _ (λj' oj d haj hoj hd=>?_) (by
    rcases hbw with⟨hne,hne2,hbw⟩|⟨he,hbw⟩|⟨he,hbw⟩
    ·unfold zM;rw[ay hne,ay hne2];exact hst _ _ _ _ _ (hR j hjn hl) hbw
    ·have h0:=hR j hjn hl;rw[jbQ he]at h0
     unfold zM;rw[aB he];exact hst2 0 _ _ _ _ (by omega) (λe=>hij (by rw[e];exact he)) h0 hbw
    ·have h0:=hR j hjn hl;rw[jbP he]at h0
     unfold zM;rw[ay (λe=>BG (e.symm.trans he)),aB he]
     exact hst2 1 _ _ _ _ (by omega) (λe=>hij (by rw[e];exact he)) h0 hbw)
   obtain⟨jd2,Wu⟩:=MG _ _ haj hjn hl;cases hdst:o.dst with
   |none=>rfl
   |some d0=>
    have hne:i≠j':=λe=>by
     subst e;rw[getD_both hu]at Wu
     cases Wu
    have hdd:=jat hnd ho' hin hdst hoj jd2 hd hne;unfold qI upd;simp only;rw[ay (λe=>hdd e.symm)]
theorem Zl(n:Nat)(T:World->Prop)(Eb:Nat->World->World->Prop)(b1 b2:Nat)(BG:b1≠b2)(h1n:b1<n)(h2n:b2<n)(hw:∀o,l[b2]?=some o->∃e∈o.after,Region.binds .any e=true/\e.on=b1)(R:Nat->Nat->(Nat->Value)->World->Prop){id:Nat}(hm:P.follows .mixedOrders=true)(hB:G5 l n=true)(hT1:∀w1 w2,T w1->Below w1.heap.size w1 w2->T w2)(hT2:∀k w1 w2,T w1->Eb k w1 w2->T w2)(hT0:T w.drew)
  (hst:∀ph i g w1 w2,R ph i g w1->Below w1.heap.size w1 w2->R ph i g w2) (hst2:∀k i g w1 w2,k<=1->i≠bkN b1 b2 k->R k i g w1->Eb k w1 w2->R (k+1) i g w2)
  (yg:∀ph i g g' w,(∀j o d,JD l j i->l[j]?=some o->o.dst=some d->g d=g' d)->R ph i g w->R ph i g' w) (AV:∀i o,i<n->l[i]?=some o->Xr P l n R Q a T Eb b1 b2 i o)
  (hend:∀f w',T w'->(∀i,i<n->R 2 i f w')->wpList P l.toArray Q (l.drop n) (kG a (l.take n) f) w'):(Code.region id l.toArray true).wp P Q a w:=by
 simp only[G5,bG,fV,bD,aX]at hB
 obtain⟨⟨⟨⟨hww,hseq⟩,hg⟩,hnd⟩,yw⟩:=hB;have hle:n<=l.length:=by rcases hww with h|h<;>omega
 have hat:∀i o,i<n->l[i]?=some o->o∈l.take n:=λi o hin hi=>by
  rw[pW];exact⟨i,by rw[gJ];simp[hin,hi]⟩
 refine zh hm ?_
 have H:=jhD (P:=P) (Q:=Q) (a:=a) BG h1n h2n hw hT1 hT2 hle ?_ hseq (λi o hin hi=>by simpa using hg o (hat i o hin hi)) hnd ?_ hst hst2 yg AV hend n (Array.replicate l.toArray.size false) (λd=>a.tmps.getD d undef) w.drew
  ⟨by simp,λj oj _ hl=>(by rw[getD_replicate_false]at hl;cases hl),λt _ ht=>getD_in (by simpa using ht) (getD_replicate_false _ _)⟩ ?_ hT0 (λi _ hl=>by rw[getD_replicate_false]at hl;cases hl)
 ·have e:kG a (l.take n) (λd=>a.tmps.getD d undef)=a:=by
   unfold kG;rw[MJ]
  rw[e]at H
  have hs:n+(l.length - n)=l.toArray.size:=by simp;omega
  rw[hs]at H
  exact H
 ·intro dJ inv i hin hu t ht hr;rcases hww with h|⟨⟨h1,h2⟩,h3⟩
  ·obtain⟨_,o,ho,_⟩:=nR.1 hr;have:=(bJ.1 ho).1
   simp at this
   omega
  ·exact tail_waits h2 h3 (by simpa using h1) inv (n - i) i rfl hin hu t ht hr
 ·intro i o hin hi e he hbd;have:=yw i (gZ.2 hin);rw[hi]at this
  simp only[iH,jl,iU,fV,kS,bD]at this
  rcases this e he with h|h
  ·rw[h]at hbd;cases hbd
  ·exact h
 ·have key:∀m,m<=l.length->Sj (Array.replicate l.toArray.size false) m=m:=by
   intro m;induction m with
   |zero=>intro _;rfl
   |succ m ih=>
    intro hm;have:=ih (by omega)
    unfold Sj at this ⊢
    have hml:m<l.length:=by omega
    rw[lJ,pG,this];simp[hml]
  exact key n hle
theorem Xr.of{T:World->Prop}{Eb:Nat->World->World->Prop}{b1 b2:Nat}{i:Nat}{o:Oper}(hi:i<n)(hB:G5 l n=true)(hsz:((l.take n).filterMap (·.dst)).all (λd=>decide (d<a.tmps.size))=true)
  (yg:∀ph i g g' w,(∀j o d,JD l j i->l[j]?=some o->o.dst=some d->g d=g' d)->R ph i g w->R ph i g' w)
  (h:∀ph (g:Nat->Value) w',T w'->(i=b1->ph=0)->(i=b2->ph=1)->(∀d,((l.take n).filterMap (·.dst)).contains d=false->g d=a.tmps.getD d undef)->Iz n (R ph) g w' o->iT P o (UZ g) w' λv w''=>R (zM b1 b2 i ph) i (qI g o.dst v) w''/\((i≠b1/\i≠b2/\Below w'.heap.size w' w'')\/(i=b1/\Eb 0 w' w'')\/(i=b2/\Eb 1 w' w''))):
  Xr P l n R Q a T Eb b1 b2 i o:=by
 simp only[G5,bG,fV,bD,aX]at hB
 obtain⟨_,yw⟩:=hB;have QD:∀k oe,k<n->l[k]?=some oe->∀e∈oe.after,Region.binds .any e=true->e.on<k:=λk oe hk hoe e he hbd=>by
  have:=yw k (gZ.2 hk);rw[hoe]at this
  simp only[iH,jl,iU,fV,kS,bD]at this
  rcases this e he with h|h
  ·rw[h]at hbd;cases hbd
  ·exact h
 have MG:∀j k,JD l j k->k<n->j<n:=by
  intro j k h;induction h with
  |self=>exact id
  |dP ho he hbd hon _ ih=>
   intro h1;subst hon;have:=QD _ _ h1 ho _ he hbd;exact ih (by omega)
 have hsz':∀d∈(l.take n).filterMap (·.dst),d<a.tmps.size:=λd hd=>by
  have:=aX.1 hsz d hd;simpa using this
 intro ph f w' hb hj hj2 hd;have hg:∀d∈(l.take n).filterMap (·.dst),(kG a (l.take n) f).tmps.getD d undef=f d:=λd hd=>by
  have h1:=zV ((l.take n).filterMap (·.dst)) f a.tmps d
  rw[aB (hsz' d hd),aB hd]at h1
  unfold kG;simp only[ji,h1,jl]
 have ho:∀d,((l.take n).filterMap (·.dst)).contains d=false->(kG a (l.take n) f).tmps.getD d undef=a.tmps.getD d undef:=λd hd=>by
  have h1:=zV ((l.take n).filterMap (·.dst)) f a.tmps d
  have h2:d ∉ (l.take n).filterMap (·.dst):=by simpa using hd
  rw[ay h2]at h1
  unfold kG;simp only[ji,h1];by_cases hl:d<a.tmps.size
  ·rw[aB hl]
  ·rw[ay hl,fZ (qK hl)]
 have key:=h ph (λd=>(kG a (l.take n) f).tmps.getD d undef) w' hb hj hj2 ho (λe he hbd hen=>yg _ e.on f _ _ (λj oj d haj hoj hdj=>(hg d (Eo hoj (MG _ _ haj hen) hdj)).symm) (hd e he hbd hen))
 rw[<- RJ]at key
 refine oD ?_ key.wp
 rintro a' w'' ⟨v,rfl,hr,hbw⟩;refine⟨v,rfl,yg _ i _ _ _ (λj oj d haj hoj hdj=>?_) hr,hbw⟩
 have hjn:=MG _ _ haj hi;have hmem:=Eo hoj hjn hdj;cases hdst:o.dst with
 |none=>exact hg d hmem
 |some d0=>
  unfold qI upd;simp only;split
  ·rfl
  ·exact hg d hmem
def U2(Rs:List (Nat->vV))(ph:Nat)(i:Nat):vV:=Rs.getD i (λ_ _ _=>True) ph
def H9(P:Program)(l:List Oper)(n:Nat)(Rs:List (Nat->vV))(a:Act)(T:World->Prop)(Eb:Nat->World->World->Prop)(b1 b2 i:Nat)(o:Oper)(p:Nat->vV):Prop:=
 (∀ph g w1 w2,p ph g w1->Below w1.heap.size w1 w2->p ph g w2)/\(∀k,k<=1->i≠bkN b1 b2 k->∀g w1 w2,p k g w1->Eb k w1 w2->p (k+1) g w2)/\(∀ph g g' w,(∀j o d,JD l j i->l[j]?=some o->o.dst=some d->g d=g' d)->p ph g w->p ph g' w)/\
 ∀ph g w',T w'->(i=b1->ph=0)->(i=b2->ph=1)->(∀d,((l.take n).filterMap (·.dst)).contains d=false->g d=a.tmps.getD d undef)->Iz n (U2 Rs ph) g w' o->
  iT P o (UZ g) w' λv w''=>p (zM b1 b2 i ph) (qI g o.dst v) w''/\((i≠b1/\i≠b2/\Below w'.heap.size w' w'')\/(i=b1/\Eb 0 w' w'')\/(i=b2/\Eb 1 w' w''))
def BZ(P:Program)(l:List Oper)(n:Nat)(Rs:List (Nat->vV))(a:Act)(T:World->Prop)(Eb:Nat->World->World->Prop)(b1 b2:Nat):Nat->List Oper->List (Nat->vV)->Prop
 |_,[],_=>True
 |_,_::_,[]=>False
 |i,o::r,p::ps=>H9 P l n Rs a T Eb b1 b2 i o p/\BZ P l n Rs a T Eb b1 b2 (i+1) r ps
section
variable {Rs:List (Nat→vV)} {T:World→Prop} {Eb:Nat→World→World→Prop} {b1 b2:Nat}
theorem BZ.at:∀ {r:List Oper} {ps:List (Nat->vV)} {k:Nat},BZ P l n Rs a T Eb b1 b2 k r ps->∀ {j:Nat} {o:Oper},r[j]?=some o->H9 P l n Rs a T Eb b1 b2 (k+j) o (ps.getD j (λ_ _ _=>True))
 |[],_,_,_,_,_,h=>by simp at h
 |_::_,[],_,h,_,_,_=>h.elim
 |x::r,p::ps,k,h,0,o,hj=>by
  simp at hj
  subst hj;exact h.1
 |x::r,p::ps,k,h,j+1,o,hj=>by
  have:=BZ.at h.2 (j:=j) (o:=o) (by simpa using hj)
  rw[show k+1+j=k+(j+1)by omega]at this
  simpa using this
theorem BZ.nil{i:Nat}{ps:List (Nat->vV)}:BZ P l n Rs a T Eb b1 b2 i [] ps:=by cases ps<;>trivial
theorem BZ.cons{i:Nat}{o:Oper}{r:List Oper}{p:Nat->vV}{ps:List (Nat->vV)}(h:H9 P l n Rs a T Eb b1 b2 i o p)(h':BZ P l n Rs a T Eb b1 b2 (i+1) r ps):BZ P l n Rs a T Eb b1 b2 i (o::r) (p::ps):=⟨h,h'⟩
end
theorem U5(n:Nat)(T:World->Prop)(Eb:Nat->World->World->Prop)(b1 b2:Nat)(BG:b1≠b2)(h1n:b1<n)(h2n:b2<n)(hw:∀o,l[b2]?=some o->∃e∈o.after,Region.binds .any e=true/\e.on=b1)(Rs:List (Nat->vV)){id:Nat}(hm:P.follows .mixedOrders=true)(hB:G5 l n=true)(hn:Rs.length=n)(hsz:((l.take n).filterMap (·.dst)).all (λd=>decide (d<a.tmps.size))=true)
  (hT1:∀w1 w2,T w1->Below w1.heap.size w1 w2->T w2) (hT2:∀k w1 w2,T w1->Eb k w1 w2->T w2) (hT0:T w.drew)
  (hops:BZ P l n Rs a T Eb b1 b2 0 (l.take n) Rs) (hend:∀f w',T w'->TA (Rs.map λp=>p 2) f w'->wpList P l.toArray Q (l.drop n) (kG a (l.take n) f) w'):(Code.region id l.toArray true).wp P Q a w:=by
 have hle:n<=l.length:=by
  have:=hB;simp only[G5,bG,fV,bD]at this
  rcases this.1.1.1.1 with h|h<;>omega
 have hat:∀i,i<n->∃o,l[i]?=some o/\H9 P l n Rs a T Eb b1 b2 i o (λph=>U2 Rs ph i):=λi hi=>by
  have hil:i<l.length:=by omega
  refine⟨l[i],by simp[hil],?_⟩
  have:=hops.at (j:=i) (o:=l[i]) (by rw[gJ];simp[hi,hil])
  rwa [eY]at this
 have NV:∀ph i g w,¬i<n->U2 Rs ph i g w:=λph i g w hi=>by
  unfold U2;rw[dU,kZ (by omega)]
  trivial
 have yg:∀ph i g g' w,(∀j o d,JD l j i->l[j]?=some o->o.dst=some d->g d=g' d)->U2 Rs ph i g w->U2 Rs ph i g' w:=λph i g g' w1 he h=>by
  by_cases hi:i<n
  ·obtain⟨o,_,_,_,h2,_⟩:=hat i hi;exact h2 ph g g' w1 he h
  ·exact NV ph i g' w1 hi
 refine Zl n T Eb b1 b2 BG h1n h2n hw (U2 Rs) hm hB hT1 hT2 hT0 (λph i g w1 w2 h hb=>?_) (λk i g w1 w2 hk hne h hb=>?_) yg (λi o hi ho=>?_) (λf w' hb hR=>hend f w' hb (TA.of λi hi=>?_))
 ·by_cases hi:i<n
  ·obtain⟨o,_,h1,_⟩:=hat i hi;exact h1 ph g w1 w2 h hb
  ·exact NV ph i g w2 hi
 ·by_cases hi:i<n
  ·obtain⟨o,_,_,h1,_⟩:=hat i hi;exact h1 k hk hne g w1 w2 h hb
  ·exact NV (k+1) i g w2 hi
 ·obtain⟨o',ho',_,_,_,h3⟩:=hat i hi;rw[ho]at ho'
  injection ho' with ho'
  subst ho';exact Xr.of hi hB hsz yg h3
 ·rw[fU,hn]at hi
  have h:=hR i hi;have hl:i<Rs.length:=by omega
  simp only[U2,atR,dU,iZ,bf hl,iH,jl]at h ⊢
  exact h
section
variable {Rs:List (Nat→vV)} {T:World→Prop} {Eb:Nat→World→World→Prop} {b1 b2:Nat}
theorem H9.val{i d:Nat}{o:Oper}{c:Value}(hi:l[i]?=some o)(ho:o.dst=some d)(hne:i≠b1)(hne2:i≠b2)
  (h:∀ph g w',T w'->(∀d,((l.take n).filterMap (·.dst)).contains d=false->g d=a.tmps.getD d undef)->Iz n (U2 Rs ph) g w' o->(execOp (UZ g) o).run P w'=.ok (.value c) w'):
  H9 P l n Rs a T Eb b1 b2 i o (λ_ g _=>g d=c):=by
 refine⟨λ_ _ _ _ h _=>h,λ_ _ _ _ _ _ h _=>h,λ_ g g' _ he h=>(he i o d (JD.self i) hi ho).symm.trans h,λph g w' hb _ _ hout hd=>?_⟩
 unfold iT;rw[h ph g w' hb hout hd];refine⟨?_,.inl ⟨hne,hne2,aj _ _⟩⟩
 rw[ho];unfold qI upd;simp
theorem H9.one{i d:Nat}{o:Oper}{p:Nat->Value->World->Prop}(hi:l[i]?=some o)(ho:o.dst=some d)(hne:i≠b1)(hne2:i≠b2)(hst:∀ph v w1 w2,p ph v w1->Below w1.heap.size w1 w2->p ph v w2)(hst2:∀k v w1 w2,k<=1->p k v w1->Eb k w1 w2->p (k+1) v w2)
  (h:∀ph g w',T w'->(∀d,((l.take n).filterMap (·.dst)).contains d=false->g d=a.tmps.getD d undef)->Iz n (U2 Rs ph) g w' o->iT P o (UZ g) w' λv w''=>p ph v w''/\Below w'.heap.size w' w''):
  H9 P l n Rs a T Eb b1 b2 i o (λph g w=>p ph (g d) w):=by
 refine⟨λph g w1 w2 h hb=>hst _ _ _ _ h hb,λk hk _ g w1 w2 h hb=>hst2 k _ _ _ hk h hb,λph g g' w1 he h=>?_,λph g w' hb _ _ hout hd=>?_⟩
 ·show p ph (g' d) w1;rw[<- he i o d (JD.self i) hi ho];exact h
 ·have h1:=h ph g w' hb hout hd;unfold zM;rw[ho,ay hne,ay hne2];have e:∀v,qI g (some d) v d=v:=λv=>by unfold qI upd;simp
  simp only[e];exact iT.mono (λv w'' h=>⟨h.1,.inl ⟨hne,hne2,h.2⟩⟩) h1
theorem H9.first{d:Nat}{o:Oper}{p:Nat->Value->World->Prop}(hi:l[b1]?=some o)(ho:o.dst=some d)(hst:∀ph v w1 w2,p ph v w1->Below w1.heap.size w1 w2->p ph v w2)(hst2:∀v w1 w2,p 1 v w1->Eb 1 w1 w2->p 2 v w2)
  (h:∀g w',T w'->(∀d,((l.take n).filterMap (·.dst)).contains d=false->g d=a.tmps.getD d undef)->Iz n (U2 Rs 0) g w' o->iT P o (UZ g) w' λv w''=>p 1 v w''/\Eb 0 w' w''):
  H9 P l n Rs a T Eb b1 b2 b1 o (λph g w=>p ph (g d) w):=by
 refine⟨λph g w1 w2 h hb=>hst _ _ _ _ h hb,λk hk hne g w1 w2 h hb=>?_,λph g g' w1 he h=>?_,λph g w' hb Z4 _ hout hd=>?_⟩
 ·rcases(show k=0\/k=1 by omega)with rfl|rfl
  ·exact absurd rfl hne
  ·exact hst2 _ _ _ h hb
 ·show p ph (g' d) w1;rw[<- he b1 o d (JD.self b1) hi ho];exact h
 ·obtain rfl:=Z4 rfl;have h1:=h g w' hb hout hd;have e1:zM b1 b2 b1 0=1:=aB rfl;have e:∀v,qI g (some d) v d=v:=λv=>by unfold qI upd;simp
  rw[ho,e1];refine iT.mono (λv w'' h=>⟨?_,.inr (.inl ⟨rfl,h.2⟩)⟩) h1
  show p 1 (qI g (some d) v d) w'';rw[e];exact h.1
theorem H9.second{o:Oper}{p:(Nat->Value)->World->Prop}(BG:b1≠b2)(ho:o.dst=none)(hst:∀g w1 w2,p g w1->Below w1.heap.size w1 w2->p g w2)
  (yg:∀g g' w,(∀j o d,JD l j b2->l[j]?=some o->o.dst=some d->g d=g' d)->p g w->p g' w)
  (h:∀g w',T w'->(∀d,((l.take n).filterMap (·.dst)).contains d=false->g d=a.tmps.getD d undef)->Iz n (U2 Rs 1) g w' o->iT P o (UZ g) w' λ_ w''=>p g w''/\Eb 1 w' w''):
  H9 P l n Rs a T Eb b1 b2 b2 o (λph g w=>ph=2/\p g w):=by
 refine⟨λph g w1 w2 h hb=>⟨h.1,hst _ _ _ h.2 hb⟩,λk hk hne g w1 w2 h hb=>?_,λph g g' w1 he h=>⟨h.1,yg g g' w1 he h.2⟩,λph g w' hb _ Z4 hout hd=>?_⟩
 ·exact absurd h.1 (by omega)
 ·obtain rfl:=Z4 rfl;have h1:=h g w' hb hout hd;have e1:zM b1 b2 b2 1=2:=by unfold zM;rw[ay (λe=>BG e.symm),aB rfl]
  rw[ho,e1];exact iT.mono (λv w'' h=>⟨⟨rfl,h.1⟩,.inr (.inr ⟨rfl,h.2⟩)⟩) h1
end
end
end Wh
