/- Texts of the claim, joined. -/
import Derived.Deep.RegionHeld3
import Derived.Laws.StructEq
import Derived.Test.YtfhfkijmebhgmaaGreatQ11
set_option maxHeartbeats 20000000
set_option maxRecDepth 100000
namespace Wh
open Go Go.RowKit Go.Shelf Go.Proofs Tryz
attribute [local go_sem] aT jW jm kC
theorem O9:Elem prog 42 (.agg #[.int .i64 0,.slice none 0 0]) 2 32:=Iu (by kernel_rfl)
theorem ZJ(x:Int×Value)(h:x.2.oneCell'=true):∀u∈Nl x,u.oneCell'=true:=by
 intro u hu;simp only[Nl,jM,oK,ny]at hu
 rcases hu with rfl|rfl
 ·rfl
 ·exact h
theorem qO{α:Type}{enc:α->List Value}{size:Nat}{e:TypeId}{w:World}{aO:Nat}{v:Value}{l:List α}(h:Own enc size e w aO v l):v.oneCell'=true:=by
 obtain⟨A,c,rfl⟩:=h.isSlice;rfl
theorem jda{s:aJ}{k:Nat}(h:k<s.ak.length):s.ak.take (k+1)=s.ak.take k++[aU s.ak k]:=by
 rw[dO h,uy h]
def upTo(s:aJ)(k:Nat):aJ:={s with ak:=s.ak.take k}
theorem jaU(s:aJ):upTo s s.ak.length=s:=by
 unfold upTo;rw[fG]
theorem Ym{s:aJ}{k:Nat}(h:k<s.ak.length):upTo s (k+1)={upTo s k with ak:=(upTo s k).ak++[aU s.ak k]}:=by
 unfold upTo;simp only;rw[jda h]
theorem ja1(w:World)(v:Value)(p:dA)(s:aJ)(hv:lK w w.heap.size v s)(hs:o9 p s):
  Calls prog 61 #[v] w (Gives (λu w'=>∃V,u=V.val/\dK w' w.heap.size V s) w):=by
 have h4:=hs.qH;have h8:=hs.vJ;have h72:=su hs.aA;have hcnt:=hs.counts;have zy:=ah hs;clear hs;obtain⟨A0,c0,A1,c1,A2,c2,A3,c3,A4,c4,A5,c5,A6,c6,rfl,hV,hN,hO,hH,hM,hI,hU,hX,hl0,hl1,hl2,hl3,hl4,hl5,JA⟩:=oW hv;go_enter func61,ntmps61
 go_wp2_with fail;obtain⟨W0,hW0,hb0,lg,uZ,hsE,hK⟩:=Lp w s A0 c0 A1 c1 A2 c2 A3 c3 A4 c4 A5 c5 A6 c6;rw[hW0];clear hW0;generalize hW1:W0.alloc _=W1;have hb1:Below W0.heap.size W0 W1:=by rw[<- hW1];exact(aj _ _).alloc (au _) _
 have hs1:W0.heap.size<W1.heap.size:=by rw[<- hW1];simp
 have jji:=ah (show iV W1 W0.heap.size 31 [.slice none 0 0,.slice none 0 0,.slice none 0 0,.slice none 0 0,.slice none 0 0,.slice none 0 0,.slice none 0 0]by rw[<- hW1];exact iV.new _ _ _)
 clear hW1;have hB1:=hb0.trans (hb1.mono hb0.size);have G9:∀k,k<s.on.length->0<(fO s.on k).length/\(fO s.on k).length<=1000:=λk hk=>by
  have:=zy.O.rowLen (b:=k) (by rw[<- zy.O.tY];exact hk)
  omega
 have hon:s.on.length<=1000:=by rw[zy.O.tY];omega
 have jdS:=ah G9;have jkZ:=ah zy.O.gY.1;have jkJ:=ah zy.O.O.1;have ZX:=ah zy.O.bg.1;clear G9;refine qZ 20 [
  λg _=>g 6=.pointer (some ⟨w.heap.size,0,none⟩),λg _=>g 7=.slice A0 s.on.length c0,λg w'=>(λv w'=>∃gs,qM 23 3 w' W1.heap.size (v) s.on gs) (g 8) w',λg _=>g 9=.pointer (some ⟨w.heap.size,2,none⟩),λg _=>g 10=.slice A2 s.aA.length c2,λg w'=>Own ig 4 46 w' W1.heap.size (g 11) s.aA/\∃gs,qM 23 3 w' W1.heap.size (g 8) s.on gs,λg _=>g 12=.pointer (some ⟨w.heap.size,3,none⟩),λg _=>g 13=.slice A3 s.aF.length c3,λg w'=>Own nP 4 48 w' W1.heap.size (g 14) s.aF/\∃gs,qM 23 3 w' W1.heap.size (g 8) s.on gs,λg _=>g 15=.pointer (some ⟨w.heap.size,4,none⟩),λg _=>g 16=.slice A4 s.gY.length c4,λg w'=>F5 w' W1.heap.size s.on s.gY (g 8) (g 17),λg _=>g 18=.pointer (some ⟨w.heap.size,5,none⟩),λg _=>g 19=.slice A5 s.O.length c5,λg w'=>FZ w' W1.heap.size s.on s.gY s.O (g 8) (g 17) (g 20),λg _=>g 21=.pointer (some ⟨w.heap.size,6,none⟩),λg _=>g 22=.slice A6 s.bg.length c6,λg w'=>FU w' W1.heap.size s.on s.gY s.O s.bg (g 8) (g 17) (g 20) (g 23),λg _=>g 24=.agg #[g 8,.slice none 0 0,g 11,g 14,g 17,g 20,g 23],λg w'=>(λv w'=>∃b,v=.pointer (some ⟨b,0,none⟩)/\W1.heap.size<=b/\jk w' b ⟨mJ,mJ,mJ,mJ,mJ,mJ,mJ,[],[]⟩) (g 3) w'] (by kernel_rfl) (by kernel_rfl) rfl (by kernel_rfl) ?_ (λf w2 hb2 hR=>?_)
 simp only[bC,bV];refine dX.cons (iR.val rfl rfl (λg w' hb ho hd=>?_)) ?_
 ·have e1:=ho 1 rfl;go_simp
 refine dX.cons (iR.val rfl rfl (λg w' hb ho hd=>?_)) ?_
 ·have e1:g 6=.pointer (some ⟨w.heap.size,0,none⟩):=hd ⟨0,.data⟩ (by simp) rfl (by decide)
  obtain⟨_,x0,x1,x2,x3,x4,x5,x6,_⟩:=hK.O w' (hb1.trans (hb.mono hb1.size));go_simp
 refine dX.cons (iR.one (d:=8) (p:=(λv w'=>∃gs,qM 23 3 w' W1.heap.size (v) s.on gs)) rfl rfl (λv w1 w2 h hb=>h.elim λgs h=>⟨gs,h.below hb⟩) (λg w' hb ho hd=>?_)) ?_
 ·have e1:g 7=.slice A0 s.on.length c0:=hd ⟨1,.data⟩ (by simp) rfl (by decide)
  unfold iT;go_simp
  refine(jg6 w' _ s.on (hN.O w' (hB1.trans (hb.mono hB1.size))) hon jdS.O).mono ?_
  rintro e w2 ⟨u,rfl,⟨gs,h⟩,hb2⟩;exact⟨u,rfl,⟨gs,h.from_ hb.size⟩,hb2⟩
 refine dX.cons (iR.val rfl rfl (λg w' hb ho hd=>?_)) ?_
 ·have e1:=ho 1 rfl;go_simp
 refine dX.cons (iR.val rfl rfl (λg w' hb ho hd=>?_)) ?_
 ·have e1:g 9=.pointer (some ⟨w.heap.size,2,none⟩):=hd ⟨3,.data⟩ (by simp) rfl (by decide)
  obtain⟨_,x0,x1,x2,x3,x4,x5,x6,_⟩:=hK.O w' (hb1.trans (hb.mono hb1.size));go_simp
 refine dX.cons (⟨λg w1 w2 h hb=>⟨h.1.below hb,h.2.elim λgs h=>⟨gs,h.below hb⟩⟩,λg g' w1 he h=>?_,λg w' hb ho hd=>?_⟩) ?_
 ·have e0:=he 2 _ 8 (.dP (i:=5) (e:=⟨2,.chain⟩) rfl (by simp) rfl rfl (.self 2)) rfl rfl
  have e2:=he 5 _ 11 (.self 5) rfl rfl;simp only[e0,e2]at h
  exact h
 ·have e1:g 10=.slice A2 s.aA.length c2:=hd ⟨4,.data⟩ (by simp) rfl (by decide)
  have e2:∃gs,qM 23 3 w' W1.heap.size (g 8) s.on gs:=hd ⟨2,.chain⟩ (by simp) rfl (by decide)
  have e2':=ah e2;clear e2;unfold iT;go_simp
  refine(Lj w' _ s.aA (hH.O w' (hB1.trans (hb.mono hB1.size))) (by omega)).mono ?_
  rintro e w2 ⟨u,rfl,h,hb2⟩;have bK:Own ig 4 46 w2 W1.heap.size (u) s.aA/\∃gs,qM 23 3 w2 W1.heap.size (g 8) s.on gs:=⟨h.from_ hb.size,e2'.O.elim λgs h=>⟨gs,h.below hb2⟩⟩
  exact⟨u,rfl,by simpa[qI,upd]using bK,hb2⟩
 refine dX.cons (iR.val rfl rfl (λg w' hb ho hd=>?_)) ?_
 ·have e1:=ho 1 rfl;go_simp
 refine dX.cons (iR.val rfl rfl (λg w' hb ho hd=>?_)) ?_
 ·have e1:g 12=.pointer (some ⟨w.heap.size,3,none⟩):=hd ⟨6,.data⟩ (by simp) rfl (by decide)
  obtain⟨_,x0,x1,x2,x3,x4,x5,x6,_⟩:=hK.O w' (hb1.trans (hb.mono hb1.size));go_simp
 refine dX.cons (⟨λg w1 w2 h hb=>⟨h.1.below hb,h.2.elim λgs h=>⟨gs,h.below hb⟩⟩,λg g' w1 he h=>?_,λg w' hb ho hd=>?_⟩) ?_
 ·have e0:=he 2 _ 8 (.dP (i:=8) (e:=⟨5,.chain⟩) rfl (by simp) rfl rfl (.dP (i:=5) (e:=⟨2,.chain⟩) rfl (by simp) rfl rfl (.self 2))) rfl rfl
  have e3:=he 8 _ 14 (.self 8) rfl rfl;simp only[e0,e3]at h
  exact h
 ·have e1:g 13=.slice A3 s.aF.length c3:=hd ⟨7,.data⟩ (by simp) rfl (by decide)
  have e2:Own ig 4 46 w' W1.heap.size (g 11) s.aA/\∃gs,qM 23 3 w' W1.heap.size (g 8) s.on gs:=hd ⟨5,.chain⟩ (by simp) rfl (by decide)
  have e2':=ah e2;clear e2;unfold iT;go_simp
  refine(jgA w' _ s.aF (hM.O w' (hB1.trans (hb.mono hB1.size))) (by omega)).mono ?_
  rintro e w2 ⟨u,rfl,h,hb2⟩;have bK:Own nP 4 48 w2 W1.heap.size (u) s.aF/\∃gs,qM 23 3 w2 W1.heap.size (g 8) s.on gs:=⟨h.from_ hb.size,e2'.O.2.elim λgs h=>⟨gs,h.below hb2⟩⟩
  exact⟨u,rfl,by simpa[qI,upd]using bK,hb2⟩
 refine dX.cons (iR.val rfl rfl (λg w' hb ho hd=>?_)) ?_
 ·have e1:=ho 1 rfl;go_simp
 refine dX.cons (iR.val rfl rfl (λg w' hb ho hd=>?_)) ?_
 ·have e1:g 15=.pointer (some ⟨w.heap.size,4,none⟩):=hd ⟨9,.data⟩ (by simp) rfl (by decide)
  obtain⟨_,x0,x1,x2,x3,x4,x5,x6,_⟩:=hK.O w' (hb1.trans (hb.mono hb1.size));go_simp
 refine dX.cons (⟨λg w1 w2 h hb=>h.below hb,λg g' w1 he h=>?_,λg w' hb ho hd=>?_⟩) ?_
 ·have e0:=he 2 _ 8 (.dP (i:=11) (e:=⟨8,.chain⟩) rfl (by simp) rfl rfl (.dP (i:=8) (e:=⟨5,.chain⟩) rfl (by simp) rfl rfl (.dP (i:=5) (e:=⟨2,.chain⟩) rfl (by simp) rfl rfl (.self 2)))) rfl rfl
  have e4:=he 11 _ 17 (.self 11) rfl rfl;simp only[e0,e4]at h
  exact h
 ·have e1:g 16=.slice A4 s.gY.length c4:=hd ⟨10,.data⟩ (by simp) rfl (by decide)
  have e2:Own nP 4 48 w' W1.heap.size (g 14) s.aF/\∃gs,qM 23 3 w' W1.heap.size (g 8) s.on gs:=hd ⟨8,.chain⟩ (by simp) rfl (by decide)
  have e2':=ah e2;clear e2;unfold iT;go_simp
  refine(RS w' _ s.gY (hI.O w' (hB1.trans (hb.mono hB1.size))) (by rw[jkZ.O];omega)).mono ?_
  rintro e w2 ⟨u,rfl,h,hb2⟩;have bK:F5 w2 W1.heap.size s.on s.gY (g 8) u:=e2'.O.2.elim λgs h8=>F5.of h8 hb.size hb2 h
  exact⟨u,rfl,by simpa[qI,upd]using bK,hb2⟩
 refine dX.cons (iR.val rfl rfl (λg w' hb ho hd=>?_)) ?_
 ·have e1:=ho 1 rfl;go_simp
 refine dX.cons (iR.val rfl rfl (λg w' hb ho hd=>?_)) ?_
 ·have e1:g 18=.pointer (some ⟨w.heap.size,5,none⟩):=hd ⟨12,.data⟩ (by simp) rfl (by decide)
  obtain⟨_,x0,x1,x2,x3,x4,x5,x6,_⟩:=hK.O w' (hb1.trans (hb.mono hb1.size));go_simp
 refine dX.cons (⟨λg w1 w2 h hb=>h.below hb,λg g' w1 he h=>?_,λg w' hb ho hd=>?_⟩) ?_
 ·have e0:=he 2 _ 8 (.dP (i:=14) (e:=⟨11,.chain⟩) rfl (by simp) rfl rfl (.dP (i:=11) (e:=⟨8,.chain⟩) rfl (by simp) rfl rfl (.dP (i:=8) (e:=⟨5,.chain⟩) rfl (by simp) rfl rfl (.dP (i:=5) (e:=⟨2,.chain⟩) rfl (by simp) rfl rfl (.self 2))))) rfl rfl
  have e4:=he 11 _ 17 (.dP (i:=14) (e:=⟨11,.chain⟩) rfl (by simp) rfl rfl (.self 11)) rfl rfl
  have e5:=he 14 _ 20 (.self 14) rfl rfl;simp only[e0,e4,e5]at h
  exact h
 ·have e1:g 19=.slice A5 s.O.length c5:=hd ⟨13,.data⟩ (by simp) rfl (by decide)
  have e2:F5 w' W1.heap.size s.on s.gY (g 8) (g 17):=hd ⟨11,.chain⟩ (by simp) rfl (by decide)
  have e2':=ah e2;clear e2;unfold iT;go_simp
  refine(RS w' _ s.O (hU.O w' (hB1.trans (hb.mono hB1.size))) (by rw[jkJ.O];omega)).mono ?_
  rintro e w2 ⟨u,rfl,h,hb2⟩;have bK:FZ w2 W1.heap.size s.on s.gY s.O (g 8) (g 17) u:=FZ.of e2'.O hb.size hb2 h;exact⟨u,rfl,by simpa[qI,upd]using bK,hb2⟩
 refine dX.cons (iR.val rfl rfl (λg w' hb ho hd=>?_)) ?_
 ·have e1:=ho 1 rfl;go_simp
 refine dX.cons (iR.val rfl rfl (λg w' hb ho hd=>?_)) ?_
 ·have e1:g 21=.pointer (some ⟨w.heap.size,6,none⟩):=hd ⟨15,.data⟩ (by simp) rfl (by decide)
  obtain⟨_,x0,x1,x2,x3,x4,x5,x6,_⟩:=hK.O w' (hb1.trans (hb.mono hb1.size));go_simp
 refine dX.cons (⟨λg w1 w2 h hb=>h.below hb,λg g' w1 he h=>?_,λg w' hb ho hd=>?_⟩) ?_
 ·have e0:=he 2 _ 8 (.dP (i:=17) (e:=⟨14,.chain⟩) rfl (by simp) rfl rfl (.dP (i:=14) (e:=⟨11,.chain⟩) rfl (by simp) rfl rfl (.dP (i:=11) (e:=⟨8,.chain⟩) rfl (by simp) rfl rfl (.dP (i:=8) (e:=⟨5,.chain⟩) rfl (by simp) rfl rfl (.dP (i:=5) (e:=⟨2,.chain⟩) rfl (by simp) rfl rfl (.self 2)))))) rfl rfl
  have e4:=he 11 _ 17 (.dP (i:=17) (e:=⟨14,.chain⟩) rfl (by simp) rfl rfl (.dP (i:=14) (e:=⟨11,.chain⟩) rfl (by simp) rfl rfl (.self 11))) rfl rfl
  have e5:=he 14 _ 20 (.dP (i:=17) (e:=⟨14,.chain⟩) rfl (by simp) rfl rfl (.self 14)) rfl rfl
  have e6:=he 17 _ 23 (.self 17) rfl rfl;simp only[e0,e4,e5,e6]at h
  exact h
 ·have e1:g 22=.slice A6 s.bg.length c6:=hd ⟨16,.data⟩ (by simp) rfl (by decide)
  have e2:FZ w' W1.heap.size s.on s.gY s.O (g 8) (g 17) (g 20):=hd ⟨14,.chain⟩ (by simp) rfl (by decide)
  have e2':=ah e2;clear e2;unfold iT;go_simp
  refine(RS w' _ s.bg (hX.O w' (hB1.trans (hb.mono hB1.size))) (by rw[ZX.O];omega)).mono ?_
  rintro e w2 ⟨u,rfl,h,hb2⟩;have bK:FU w2 W1.heap.size s.on s.gY s.O s.bg (g 8) (g 17) (g 20) u:=FU.of e2'.O hb.size hb2 h;exact⟨u,rfl,by simpa[qI,upd]using bK,hb2⟩
 refine dX.cons (⟨λg w1 w2 h hb=>h,λg g' w1 he h=>?_,λg w' hb ho hd=>?_⟩) ?_
 ·have es:=he 18 _ 24 (.self 18) rfl rfl;have e0:=he 2 _ 8 (.dP (i:=18) (e:=⟨2,.data⟩) rfl (by simp) rfl rfl (.self 2)) rfl rfl
  have e2:=he 5 _ 11 (.dP (i:=18) (e:=⟨5,.data⟩) rfl (by simp) rfl rfl (.self 5)) rfl rfl
  have e3:=he 8 _ 14 (.dP (i:=18) (e:=⟨8,.data⟩) rfl (by simp) rfl rfl (.self 8)) rfl rfl
  have e4:=he 11 _ 17 (.dP (i:=18) (e:=⟨11,.data⟩) rfl (by simp) rfl rfl (.self 11)) rfl rfl
  have e5:=he 14 _ 20 (.dP (i:=18) (e:=⟨14,.data⟩) rfl (by simp) rfl rfl (.self 14)) rfl rfl
  have e6:=he 17 _ 23 (.dP (i:=18) (e:=⟨17,.data⟩) rfl (by simp) rfl rfl (.self 17)) rfl rfl
  change g' 24=.agg #[g' 8,.slice none 0 0,g' 11,g' 14,g' 17,g' 20,g' 23];rw[<- es,<- e0,<- e2,<- e3,<- e4,<- e5,<- e6];exact h
 ·obtain⟨B0,d0,s0⟩:∃A c,g 8=.slice A s.on.length c:=(hd ⟨2,.data⟩ (by simp) rfl (by decide):∃gs,qM 23 3 w' W1.heap.size (g 8) s.on gs).elim λgs h=>h.isSlice
  obtain⟨B2,d2,s2⟩:=(hd ⟨5,.data⟩ (by simp) rfl (by decide):Own ig 4 46 w' W1.heap.size (g 11) s.aA/\∃gs,qM 23 3 w' W1.heap.size (g 8) s.on gs).1.isSlice
  obtain⟨B3,d3,s3⟩:=(hd ⟨8,.data⟩ (by simp) rfl (by decide):Own nP 4 48 w' W1.heap.size (g 14) s.aF/\∃gs,qM 23 3 w' W1.heap.size (g 8) s.on gs).1.isSlice
  obtain⟨B4,d4,s4⟩:=(hd ⟨11,.data⟩ (by simp) rfl (by decide):F5 w' W1.heap.size s.on s.gY (g 8) (g 17)).isSlice
  obtain⟨B5,d5,s5⟩:=(hd ⟨14,.data⟩ (by simp) rfl (by decide):FZ w' W1.heap.size s.on s.gY s.O (g 8) (g 17) (g 20)).isSlice
  obtain⟨B6,d6,s6⟩:=(hd ⟨17,.data⟩ (by simp) rfl (by decide):FU w' W1.heap.size s.on s.gY s.O s.bg (g 8) (g 17) (g 20) (g 23)).isSlice
  unfold iT;go_simp
  exact⟨by simp[qI,upd,s0,s2,s3,s4,s5,s6],aj _ _⟩
 refine dX.cons (iR.one (d:=3) (p:=(λv w'=>∃b,v=.pointer (some ⟨b,0,none⟩)/\W1.heap.size<=b/\jk w' b ⟨mJ,mJ,mJ,mJ,mJ,mJ,mJ,[],[]⟩)) rfl rfl (λv w1 w2 h hb=>h.elim λb h=>⟨b,h.1,h.2.1,h.2.2.below hb h.2.2.lt⟩) (λg w' hb ho hd=>?_)) ?_
 ·unfold iT;go_simp
  exact⟨⟨hb.size,iV.new _ _ _⟩,(aj _ _).alloc (au _) _⟩
 exact dX.nil;obtain⟨r0,r1,r2,r3,r4,r5,r6,r7,r8,r9,r10,r11,r12,r13,kK,r15,r16,r17,r18,⟨b,r19,hbb,E5⟩,_⟩:=hR;simp only[kG,zB,bC,bV,eG,gW,eX,fF,fB,gV,bM,dF,dL,r0,r1,r3,r4,r6,r7,r9,r10,r12,r13,r15,r16,r18,r19];obtain⟨B0,d0,s0⟩:=r17.jbI;obtain⟨B2,d2,s2⟩:=r5.1.isSlice;obtain⟨B3,d3,s3⟩:=r8.1.isSlice;obtain⟨B4,d4,s4⟩:=r11.isSlice;obtain⟨B5,d5,s5⟩:=kK.isSlice;obtain⟨B6,d6,s6⟩:=r17.isSlice;obtain⟨vs,lC⟩:=r17.made r5.1 r8.1;simp only[s0,s2,s3,s4,s5,s6]at lC ⊢
 have hO2:=ah lC;clear lC s0 s2 s3 s4 s5 s6;clear r0 r1 r2 r3 r4 r5 r6 r7 r8 r9 r10 r11 r12 r13 kK r15 r16 r17 r18 r19;refine dB (.tmp 3) (.tmp 24) _ ⟨.slice B0 s.on.length d0,mJ,.slice B2 s.aA.length d2,.slice B3 s.aF.length d3,.slice B4 s.gY.length d4,.slice B5 s.O.length d5,.slice B6 s.bg.length d6,vs,[]⟩ rfl E5 rfl rfl (λw3 Nb hg3=>?_)
 have hbw:Below W1.heap.size W1 w3:=hb2.grown hg3 hb2.size (λk hk=>by injection hk with hk;omega)
 have hO3:dK w3 W1.heap.size ⟨.slice B0 s.on.length d0,mJ,.slice B2 s.aA.length d2,.slice B3 s.aF.length d3,.slice B4 s.gY.length d4,.slice B5 s.O.length d5,.slice B6 s.bg.length d6,vs,[]⟩ (upTo s 0):=
  hO2.O.keptBy hg3 E5.blk (by decide) (by decide) (by decide) (by decide) (by decide) (by decide)
 have jjc:=ah hO3;have N9:=ah Nb;clear hO3 hO2 E5 Nb hg3 hb2;have jb3:=hb1.trans (hbw.mono hb1.size);obtain⟨_,x0,x1,x2,x3,x4,x5,x6,_⟩:=hK.O w3 jb3;refine fC ?_
 go_wp2_with fail;go_loopw[28,5] (λi _ wr=>∃(k:Nat) (V:SV),k<=s.ak.length/\i=.int .i64 k/\dK wr W1.heap.size V (upTo s k)/\jk wr b V/\Below W1.heap.size W1 wr) (λi _ _=>s.ak.length - (RowKit.intOf i).toNat)
 case atStart=>exact⟨0,_,aK _,rfl,jjc.O,N9.O,hbw⟩
 case round=>
  clear x0 x1 x2 x3 x4 x5 x6 hbw jb3 jjc N9;obtain⟨k,V,hk,rfl,hOw,hbx,hbw⟩:=hrel;have H7:=ah hOw;have AZ:=ah hbx;clear hOw hbx;have hB:=hB1.trans (hbw.mono hB1.size);have jb3:=hb1.trans (hbw.mono hb1.size);by_cases hlt:k<s.ak.length
  ·obtain⟨A',c',Jh,Gs,e0,e1,hsl⟩:=(hO.O wr hB).aC hlt;obtain⟨l1,l3⟩:=zy.O.tN hlt;change 1<=(aU s.ak k).aH.length at l1
   change(aU s.ak k).aH.length<=3 at l3
   have hwa:Below wr.heap.size wr (wr.alloc (.cells #[.int .i64 (aU s.ak k).dW,.slice A' (aU s.ak k).aH.length c'] 42)):=(aj _ _).alloc (au _) _;have hla:wr.heap.size<(wr.alloc (.cells #[.int .i64 (aU s.ak k).dW,.slice A' (aU s.ak k).aH.length c'] 42)).heap.size:=by simp
   have hob:iV (wr.alloc (.cells #[.int .i64 (aU s.ak k).dW,.slice A' (aU s.ak k).aH.length c'] 42)) wr.heap.size 42 [.int .i64 (aU s.ak k).dW,.slice A' (aU s.ak k).aH.length c']:=iV.new _ _ _;have jno:=ah hob;clear hob;go_wp2_with fail;clear e0 e1;refine(Zb _ _ (aU s.ak k).aH (hsl.grow hwa) (by omega)).mono ?_
   rintro e W4 ⟨u,rfl,hu,hb4⟩;generalize hWa:wr.alloc (.cells #[.int .i64 (aU s.ak k).dW,.slice A' (aU s.ak k).aH.length c'] 42)=Wa at hwa hla jno hu hb4
   clear hWa hsl;obtain⟨Au,cu,rfl⟩:=hu.isSlice;have jaj:=hwa.trans (hb4.mono hwa.size);have jio:=jno.O.below hb4 hla;have jqX:=ah jio;have hu':=ah hu;have z0:=jio.cell (j:=0) rfl;have z1:=jio.cell (j:=1) rfl;have zf:=jio.frozen 1;have jof:=AZ.O.below jaj AZ.O.lt;have y1:=jof.cells.2.1;have hbne:b≠wr.heap.size:=Nat.ne_of_lt AZ.O.lt;have hbne':wr.heap.size≠b:=λe=>hbne e.symm
   have hBx4':=ah jof;clear jio hu jof jno;go_wp2_with (first|(at_builtin;refine aW ?_)|fail)
   unfold Hid;have jeh:Below wr.heap.size wr (W4.setCell ⟨wr.heap.size,1,none⟩ (Value.slice Au (aU s.ak k).aH.length cu)):=jaj.setCell (au _) _;have hb16:Below wr.heap.size wr ((W4.setCell ⟨wr.heap.size,1,none⟩ (Value.slice Au (aU s.ak k).aH.length cu)).alloc (.cells #[.int .i64 (aU s.ak k).dW,Value.slice Au (aU s.ak k).aH.length cu] 42)):=jeh.alloc jeh.size _;have hu6:Own kP 4 44 ((W4.setCell ⟨wr.heap.size,1,none⟩ (Value.slice Au (aU s.ak k).aH.length cu)).alloc (.cells #[.int .i64 (aU s.ak k).dW,Value.slice Au (aU s.ak k).aH.length cu] 42)) W1.heap.size (Value.slice Au (aU s.ak k).aH.length cu) (aU s.ak k).aH:=
    ((hu'.O.kept (xA jqX.O 1 _).2 (.inr λhe=>by have:=(hu'.O.size _ he).1;omega)).alloc _).from_ (aY hbw.size hwa.size)
   have huf:∀g,Value.ownBlock (Value.slice Au (aU s.ak k).aH.length cu)=some g->wr.heap.size<=g:=λg hg=>by
    have:=(hu'.O.size g hg).1;omega
   have hlo:(zI (upTo s k).ak V.aH).length<=1000000:=by
    rw[uJ H7.O.llen];show(s.ak.take k).length<=1000000;rw[bT];omega
   have hBx6:jk ((W4.setCell ⟨wr.heap.size,1,none⟩ (Value.slice Au (aU s.ak k).aH.length cu)).alloc (.cells #[.int .i64 (aU s.ak k).dW,Value.slice Au (aU s.ak k).aH.length cu] 42)) b V:=(AZ.O.below hb16 AZ.O.lt);have hO6:=H7.O.below hb16;have jmv:=ah hBx6;clear hBx6;have hcn:=uF (W4.setCell ⟨wr.heap.size,1,none⟩ (Value.slice Au (aU s.ak k).aH.length cu)) #[.int .i64 (aU s.ak k).dW,Value.slice Au (aU s.ak k).aH.length cu] 42;rw[show(W4.setCell ⟨wr.heap.size,1,none⟩ (Value.slice Au (aU s.ak k).aH.length cu)).heap.size=W4.heap.size by simp[World.setCell]]at hcn
   refine lS _ rfl (.tmp 37) (.tmp 39) 27 42 rfl W1.heap.size _ 2 32 underlying27 O9 rfl (by decide) (by decide) V.ak (zI (upTo s k).ak V.aH) ((aU s.ak k).dW,Value.slice Au (aU s.ak k).aH.length cu) rfl hO6.ak ⟨W4.heap.size,0,none⟩ 1 rfl rfl hcn (ZJ _ rfl) hlo (aY hbw.size hb16.size) ?_
   intro v7 w7 yM LC Tc ET;have X6:=H7.O.KJ hb16 (x:=aU s.ak k) hu6 huf LC yM;have FV:jk w7 b V:=jmv.O.grown LC (λhe=>by
    rcases hO6.ak.mQ jmv.O.blk (by decide)with h|h
    ·rw[h]at he;cases he
    ·exact h he.symm)
   have QA:Below W1.heap.size W1 w7:=(hbw.trans (hb16.mono hbw.size)).trans ET;obtain⟨Av,cv,hv7⟩:=yM.isSlice;simp only[aZ,dw,dY,eY]at hv7
   subst hv7;obtain⟨vv,hvv⟩:∃x,x=Value.slice Av ((zI (upTo s k).ak V.aH).length+1) cv:=⟨_,rfl⟩;have Xw:=X6.box FV 1 vv;have Jm:=FV.Yu vv;rw[<- Ym hlt]at Xw
   have jaf:=QA.setCell (p:=⟨b,1,none⟩) hbb vv;rw[hvv]at Xw Jm jaf
   clear hvv vv;have jak:=ah Xw;have Oh:=ah Jm;have q1:=FV.cells.2.1;have qf:=FV.frozen 1;clear Xw Jm X6 FV hO6 yM LC Tc ET huf hu6 jaj jeh hb16 hb4 hwa hla hlo z0 z1 zf y1;go_wp2_with fail;go_roundw
   case rel=>exact⟨k+1,_,by omega,by go_num,jak.O,Oh.O,jaf⟩
   case measure=>simp[RowKit.intOf];omega
  ·obtain rfl:k=s.ak.length:=by omega
   rw[jaU]at H7
   have hR1:iV wr (w.heap.size+1) _ _:=hsE.O ▸ jji.O.below hbw hs1;have hfz:=hR1.frozen;obtain⟨b0,b1,b2,b3,b4,b5,b6⟩:=AZ.O.cells;have hone:V.cells.all (λu=>u.oneCell')=true:=by
    have h:=H7.O;simp[SV.cells,qO h.on,qO h.ak,qO h.aA,qO h.aF,qO h.gY,qO h.O,qO h.bg]
   have Qz:jk wr (w.heap.size+1) ⟨mJ,mJ,mJ,mJ,mJ,mJ,mJ,[],[]⟩:=hR1;clear hfz;go_wp2_with (refine dB (.tmp 2) (.tmp 43) _ V rfl Qz rfl hone (λw9 dM je=>?_))
   have wC:=H7.O.keptBy je Qz.blk (by decide) (by decide) (by decide) (by decide) (by decide) (by decide)
   obtain⟨p0,p1,p2,p3,p4,p5,p6⟩:=dM.cells;have hbz:w.heap.size<=w.heap.size+1:=by omega
   have bK:Below w.heap.size w w9:=hB.grown je hB.size (λk hk=>by injection hk with hk;omega)
   have hsB:w.heap.size<=W1.heap.size:=hB1.size;clear b0 b1 b2 b3 b4 b5 b6;go_wp2_with fail;exact fD (v:=V.val) (by simp[results,results61,go_sem,SV.val,p0,p1,p2,p3,p4,p5,p6]) rfl ⟨_,rfl,⟨V,rfl,wC.from_ hsB⟩,bK⟩
end Wh
namespace Wh
open Go Go.RowKit Go.Shelf Go.Proofs Tryz
attribute [local go_sem] aT
theorem jey(n:Int)(w:World):Calls prog 190 #[.int .i64 n] w λe w'=>e=.returned (.bool false)/\w=w':=by
 go_enter func190,ntmps190
 go_wp2
 go_ret
 exact⟨by simp,rfl⟩
theorem jez(a b:Int)(w:World):Calls prog 184 #[.int .i64 a,.int .i64 b] w λe w'=>e=.returned (.int .i64 (Tq a b))/\w=w':=by
 rcases MQ a b with⟨h1,h2⟩|⟨h1,h2⟩|⟨h1,h2⟩
 ·go_enter func184,ntmps184
  go_wp2_with (go_at_call 190;refine(jey _ _).mono ?_;rintro e w' ⟨rfl,rfl⟩)
  go_ret
  exact⟨iF h2.symm,rfl⟩
 ·go_enter func184,ntmps184
  go_wp2_with (go_at_call 190;refine(jey _ _).mono ?_;rintro e w' ⟨rfl,rfl⟩)
  go_ret
  exact⟨iF h2.symm,rfl⟩
 ·subst h1;go_enter func184,ntmps184
  go_wp2_with (go_at_call 190;refine(jey _ _).mono ?_;rintro e w' ⟨rfl,rfl⟩)
  go_ret
  exact⟨iF h2.symm,rfl⟩
def or3(a b c:Int):Int:=if a≠0 then a else if b≠0 then b else c
theorem jsl(a b c:Int)(w:World)(bl off k:Nat)(h0:w.cell? ⟨bl,off,none⟩=some (.int .i64 a))(h1:w.cell? ⟨bl,off+1,none⟩=some (.int .i64 b))(h2:w.cell? ⟨bl,off+2,none⟩=some (.int .i64 c)):
  Calls prog 183 #[.slice (some ⟨bl,off,none⟩) 3 k] w λe w'=>e=.returned (.int .i64 (or3 a b c))/\w=w':=by
 by_cases ha:a=0
 ·subst ha;by_cases hb:b=0
  ·subst hb;have bK:or3 0 0 c=c:=by simp[or3]
   by_cases hc:c=0
   ·subst hc;go_enter func183,ntmps183
    go_wp2_with fail;refine yF 4 ?_
    rw[nX];go_wp2_with fail;rw[nX];go_wp2_with fail;rw[nX];go_wp2_with fail;rw[nX];go_wp2_with fail;go_ret
    exact⟨iF bK.symm,rfl⟩
   ·have hc':(c !=0)=true:=by simpa using hc
    go_enter func183,ntmps183
    go_wp2_with fail;refine yF 4 ?_
    rw[nX];go_wp2_with fail;rw[nX];go_wp2_with fail;rw[nX];go_wp2_with fail;go_ret
    exact⟨iF bK.symm,rfl⟩
  ·have bK:or3 0 b c=b:=by simp[or3,hb]
   have hb':(b !=0)=true:=by simpa using hb
   go_enter func183,ntmps183
   go_wp2_with fail;refine yF 4 ?_
   rw[nX];go_wp2_with fail;rw[nX];go_wp2_with fail;go_ret
   exact⟨iF bK.symm,rfl⟩
 ·have bK:or3 a b c=a:=by simp[or3,ha]
  have ha':(a !=0)=true:=by simpa using ha
  go_enter func183,ntmps183
  go_wp2_with fail;refine yF 4 ?_
  rw[nX];go_wp2_with fail;go_ret
  exact⟨iF bK.symm,rfl⟩
theorem Pg(a b:dZ)(w:World):Calls prog 167 #[um a,um b] w λe w'=>e=.returned (.int .i64 (ord a b))/\Below w.heap.size w w':=by
 unfold um;go_enter func167,ntmps167
 go_wp2_with fail;go_region_held3 (λw'=>w'.cell? ⟨w.heap.size,0,none⟩=some (.int .i64 a.aC)/\w'.cell? ⟨w.heap.size,1,none⟩=some (.int .i64 a.aG)/\w'.cell? ⟨w.heap.size,2,none⟩=some (.int .i64 a.bin)/\
  w'.cell? ⟨w.heap.size+1,0,none⟩=some (.int .i64 b.aC)/\w'.cell? ⟨w.heap.size+1,1,none⟩=some (.int .i64 b.aG)/\w'.cell? ⟨w.heap.size+1,2,none⟩=some (.int .i64 b.bin)) (first|go_keep)
  (first
  |(go_at_call 184;refine(jez _ _ _).mono ?_;rintro e w' ⟨rfl,rfl⟩)
  |(go_at_call 183;refine(jsl (Tq a.aC b.aC) (Tq a.aG b.aG) (Tq a.bin b.bin) _ _ _ _ (by go_simp) (by go_simp) (by go_simp)).mono ?_;rintro e w' ⟨rfl,rfl⟩))
 go_wp2_with fail;go_ret
 exact⟨rfl,((((aj _ _).alloc (au _) _).alloc (by simp) _).alloc (by simp;omega) _).drew⟩
theorem Fh(h:dZ)(w:World)(hk:sD h.aC h.aG h.bin):Calls prog 125 #[um h] w λe w'=>e=.returned (.int .i64 (fP h))/\Below w.heap.size w w':=by
 obtain⟨⟨a1,a2⟩,⟨b1,b2⟩,⟨c1,c2⟩⟩:=hk;unfold um;go_enter func125,ntmps125
 go_wp2
 go_ret
 exact⟨rfl,(aj _ _).alloc (au _) _⟩
theorem jeo(h:dZ):(cZ h.aC 0 3=false/\lH h=false)\/(cZ h.aC 0 3=true/\cZ h.aG 0 2=false/\lH h=false)\/
  (cZ h.aC 0 3=true/\cZ h.aG 0 2=true/\cZ h.bin 0 5=false/\lH h=false)\/(cZ h.aC 0 3=true/\cZ h.aG 0 2=true/\cZ h.bin 0 5=true/\lH h=cZ h.n 1 200):=by
 unfold lH;cases cZ h.aC 0 3<;>cases cZ h.aG 0 2<;>cases cZ h.bin 0 5<;>simp
theorem OY(h:dZ)(w:World):Calls prog 151 #[um h] w λe w'=>e=.returned (.bool (lH h))/\Below w.heap.size w w':=by
 unfold um;rcases jeo h with⟨g1,hf⟩|⟨g1,g2,hf⟩|⟨g1,g2,g3,hf⟩|⟨g1,g2,g3,hf⟩
 all_goals
  go_enter func151,ntmps151
  go_wp2_with (go_at_call 38;refine(oH _ _ _ _).mono ?_;rintro e w' ⟨rfl,rfl⟩)
  go_ret
  exact⟨fK hf.symm,(aj _ _).alloc (au _) _⟩
end Wh
namespace Wh
open Go Go.RowKit Go.Shelf Go.Proofs Tryz
attribute [local go_sem] aT
theorem jdX(h:dZ):(min (min h.aC h.aG) h.bin<0/\lH h=false)\/(0<=min (min h.aC h.aG) h.bin/\4<=h.aC/\lH h=false)\/
  (0<=min (min h.aC h.aG) h.bin/\h.aC<4/\3<=h.aG/\lH h=false)\/(0<=min (min h.aC h.aG) h.bin/\h.aC<4/\h.aG<3/\6<=h.bin/\lH h=false)\/
  (0<=min (min h.aC h.aG) h.bin/\h.aC<4/\h.aG<3/\h.bin<6/\h.n<1/\lH h=false)\/(0<=min (min h.aC h.aG) h.bin/\h.aC<4/\h.aG<3/\h.bin<6/\1<=h.n/\200<h.n/\lH h=false)\/
  (0<=min (min h.aC h.aG) h.bin/\h.aC<4/\h.aG<3/\h.bin<6/\1<=h.n/\h.n<=200/\lH h=true):=by
 have hi:=@nI h;unfold sD at hi
 cases hf:lH h
 ·rw[hf]at hi
  simp only[iE,vg]at hi
  simp only[mD,reduceCtorEq,qm,ny];omega
 ·rw[hf]at hi
  simp only[uG]at hi
  simp only[mD,reduceCtorEq,qm,wY];omega
theorem WB(h:dZ)(w:World):Calls prog 164 #[um h] w λe w'=>e=.returned (.bool (lH h))/\Below w.heap.size w w':=by
 unfold um;rcases jdX h with⟨g1,hf⟩|⟨g1,g2,hf⟩|⟨g1,g2,g3,hf⟩|⟨g1,g2,g3,g4,hf⟩|⟨g1,g2,g3,g4,g5,hf⟩|⟨g1,g2,g3,g4,g5,g6,hf⟩|⟨g1,g2,g3,g4,g5,g6,hf⟩
 all_goals
  have hf':=ah hf;clear hf;go_enter func164,ntmps164
  go_wp2
  all_goals
   go_ret
   exact⟨fK (by rw[hf'.O]<;>first|rfl|(simp<;>omega)),(aj _ _).alloc (au _) _⟩
def BO(l:List dZ)(k:Nat):Bool:=lH (hold l k)&&(decide (k=0)||decide (fP (hold l (k - 1))<fP (hold l k)))
theorem Mc{l:List dZ}{k:Nat}(hk:k<l.length)(h:BO l k=false):lT l=1:=by
 unfold lT;rw[ay];intro hc;have:=aX.1 hc k (gZ.2 hk);unfold BO at h
 rw[h]at this
 cases this
theorem YU{l:List dZ}(h:∀k,k<l.length->BO l k=true):lT l=0:=by
 unfold lT;rw[aB];exact aX.2 λk hk=>h k (gZ.1 hk)
theorem Yq{l:List dZ}{k:Nat}(h:BO l k=true):lH (hold l k)=true:=by
 unfold BO at h
 simp only[bG]at h
 exact h.1
theorem jeN{l:List dZ}{k:Nat}(h:lH (hold l k)=false):BO l k=false:=by
 unfold BO;rw[h];rfl
theorem Yo{l:List dZ}(h:lH (hold l 0)=true):BO l 0=true:=by
 unfold BO;rw[h];rfl
theorem Yp{l:List dZ}{k:Nat}(h:lH (hold l (k+1))=true):BO l (k+1)=decide (fP (hold l k)<fP (hold l (k+1))):=by
 unfold BO;rw[h];simp
theorem jgW{l:List dZ}{k:Nat}(h:lH (hold l (k+1))=true)(h0:lH (hold l k)=true):BO l (k+1)=decide (ord (hold l k) (hold l (k+1))<0):=by
 rw[Yp h];congr 1
 rw[O1 (nI.1 h0).1 (nI.1 h).1]
theorem UW(w:World)(v:Value)(l:List dZ)(hv:Sl ig w w.heap.size v l):
  Calls prog 136 #[v] w λe w'=>e=.returned (.int .i64 (lT l))/\Below w.heap.size w w':=by
 obtain⟨A,c,rfl,hl,hA⟩:=hv;go_enter func136,ntmps136
 go_wp2_with fail;go_loopw[7,3,4] (λi _ _ wr=>∃k:Nat,k<=l.length/\i=.int .i64 k/\(∀j,j<k->BO l j=true)/\Below w.heap.size w wr) (λi _ _ _=>l.length - (RowKit.intOf i).toNat)
 case atStart=>exact⟨0,aK _,rfl,λj hj=>by omega,aj _ _⟩
 case round=>
  obtain⟨k,hk,rfl,kE,hbw⟩:=hrel;by_cases hlt:k<l.length
  ·obtain⟨hok,LG,b0,b1,b2,b3⟩:=(hA.up hbw hbw.size).hold hlt;have hba:Below w.heap.size w (wr.alloc (.cells #[.int .i64 (hold l k).aC,.int .i64 (hold l k).aG,.int .i64 (hold l k).bin,.int .i64 (hold l k).n] 46)):=hbw.alloc hbw.size _;have q0:=λo d os=>bY (w:=wr.alloc (.cells #[.int .i64 (hold l k).aC,.int .i64 (hold l k).aG,.int .i64 (hold l k).bin,.int .i64 (hold l k).n] 46)) (b:=wr.heap.size) (by simp) o d os
   cases hf:lH (hold l k)
   ·go_wp2_with fail;refine dG (by kernel_rfl) (by kernel_rfl) ?_
    repeat(go_big_quiet_step ((go_at_call 164;refine gI (WB (hold l k) _))))
    refine wpQuiet_nil ?_
    intro W2 hw';have hb2:=dD hw';clear hw';go_wp2_with fail;go_ret
    exact⟨iF (Mc hlt (jeN hf)).symm,hba.trans (hb2.mono hba.size)⟩
   ·rcases k with _|m
    ·have hst:=Yo hf;simp only[DU,jB]at b0 b1 b2 b3
     go_wp2_with fail;refine dG (by kernel_rfl) (by kernel_rfl) ?_
     repeat(go_big_quiet_step ((go_at_call 164;refine gI (WB (hold l 0) _))))
     refine wpQuiet_nil ?_
     intro W2 hw';have hb2:=dD hw';clear hw';go_wp2_with fail;go_roundw
     case rel=>exact⟨1,by omega,by go_num,λj hj=>by(obtain rfl:j=0:=by omega);exact hst,hba.trans (hb2.mono hba.size)⟩
     case measure=>simp[RowKit.intOf];omega
    ·obtain⟨_,_,c0,c1,c2,c3⟩:=(hA.up hbw hbw.size).hold (show m<l.length by omega)
     have qA:=λo d os=>bY (w:=wr.alloc (.cells #[.int .i64 (hold l (m+1)).aC,.int .i64 (hold l (m+1)).aG,.int .i64 (hold l (m+1)).bin,.int .i64 (hold l (m+1)).n] 46)) (b:=jd A) (by simp;omega) o d os
     have hst:=jgW hf (Yq (kE m (by omega)))
     by_cases ho:ord (hold l m) (hold l (m+1))<0
     ·have hst':=ah (show BO l (m+1)=true by rw[hst];simpa using ho)
      clear hst;go_wp2_with fail;refine dG (by kernel_rfl) (by kernel_rfl) ?_
      repeat(go_big_quiet_step ((first|(go_at_call 164;refine gI (WB (hold l (m+1)) _))|(go_at_call 167;refine gI (Pg (hold l m) (hold l (m+1)) _)))))
      refine wpQuiet_nil ?_
      intro W2 hw';have hb2:=dD hw';clear hw';go_wp2_with fail;go_roundw
      case rel=>
       refine⟨m+2,by omega,by go_num,λj hj=>?_,hba.trans (hb2.mono hba.size)⟩
       rcases aS.1 hj with h|rfl
       ·exact kE j h
       ·exact hst'.O
      case measure=>simp[RowKit.intOf];omega
     ·have hst':=ah (show BO l (m+1)=false by rw[hst];simpa using ho)
      have ho':0<=ord (hold l m) (hold l (m+1)):=by omega
      clear hst ho;go_wp2_with fail;refine dG (by kernel_rfl) (by kernel_rfl) ?_
      repeat(go_big_quiet_step ((first|(go_at_call 164;refine gI (WB (hold l (m+1)) _))|(go_at_call 167;refine gI (Pg (hold l m) (hold l (m+1)) _)))))
      refine wpQuiet_nil ?_
      intro W2 hw';have hb2:=dD hw';clear hw';go_wp2_with fail;go_ret
      exact⟨iF (Mc hlt hst'.O).symm,hba.trans (hb2.mono hba.size)⟩
  ·obtain rfl:k=l.length:=by omega
   have bK:=ah (YU kE);go_wp2_with fail;go_ret
   exact⟨iF bK.O.symm,hbw⟩
theorem jbd(w:World)(v:Value)(l:List dZ)(hv:Sl ig w w.heap.size v l):
  Calls prog 90 #[v] w λe w'=>e=.returned (.int .i64 (lT l))/\Below w.heap.size w w':=by
 obtain⟨A,c,rfl,hl,hA⟩:=hv;go_enter func90,ntmps90
 go_wp2_with fail;go_loopw[3] (λi wr=>∃k:Nat,k<=l.length/\i=.int .i64 k/\(∀j,j<k->BO l j=true)/\Below w.heap.size w wr) (λi _=>l.length - (RowKit.intOf i).toNat)
 case atStart=>exact⟨0,aK _,rfl,λj hj=>by omega,aj _ _⟩
 case round=>
  obtain⟨k,hk,rfl,kE,hbw⟩:=hrel;by_cases hlt:k<l.length
  ·obtain⟨hok,LG,b0,b1,b2,b3⟩:=(hA.up hbw hbw.size).hold hlt;have qA:=λo d os=>bY (w:=wr) (b:=jd A) LG o d os
   cases hf:lH (hold l k)
   ·go_wp2_with fail;refine dG (by kernel_rfl) (by kernel_rfl) ?_
    repeat(go_big_quiet_step ((go_at_call 151;refine gI (OY (hold l k) _))))
    refine wpQuiet_nil ?_
    intro W2 hw';have hb2:=dD hw';clear hw';go_wp2_with fail;go_ret
    exact⟨iF (Mc hlt (jeN hf)).symm,hbw.trans (hb2.mono hbw.size)⟩
   ·rcases k with _|m
    ·have hst:=Yo hf;simp only[DU,jB]at b0 b1 b2 b3
     go_wp2_with fail;refine dG (by kernel_rfl) (by kernel_rfl) ?_
     repeat(go_big_quiet_step ((go_at_call 151;refine gI (OY (hold l 0) _))))
     refine wpQuiet_nil ?_
     intro W2 hw';have hb2:=dD hw';clear hw';go_wp2_with fail;go_roundw
     case rel=>exact⟨1,by omega,by go_num,λj hj=>by(obtain rfl:j=0:=by omega);exact hst,hbw.trans (hb2.mono hbw.size)⟩
     case measure=>simp[RowKit.intOf];omega
    ·obtain⟨_,_,c0,c1,c2,c3⟩:=(hA.up hbw hbw.size).hold (show m<l.length by omega)
     have hst:=Yp hf;have hk0:=(nI.1 (Yq (kE m (by omega)))).1
     have hk1:=(nI.1 hf).1;have hK0:=ah hk0;have hK1:=ah hk1;clear hk0 hk1;by_cases ho:fP (hold l m)<fP (hold l (m+1))
     ·have hst':=ah (show BO l (m+1)=true by rw[hst];simpa using ho)
      clear hst;go_wp2_with fail;refine dG (by kernel_rfl) (by kernel_rfl) ?_
      repeat(go_big_quiet_step ((first|(go_at_call 151;refine gI (OY (hold l (m+1)) _))|(go_at_call 125;refine gI (Fh _ _ (by first|exact hK0.O|exact hK1.O))))))
      refine wpQuiet_nil ?_
      intro W2 hw';have hb2:=dD hw';clear hw';go_wp2_with fail;go_roundw
      case rel=>
       refine⟨m+2,by omega,by go_num,λj hj=>?_,hbw.trans (hb2.mono hbw.size)⟩
       rcases aS.1 hj with h|rfl
       ·exact kE j h
       ·exact hst'.O
      case measure=>simp[RowKit.intOf];omega
     ·have hst':=ah (show BO l (m+1)=false by rw[hst];simpa using ho)
      have ho':fP (hold l (m+1))<=fP (hold l m):=by omega
      clear hst ho;go_wp2_with fail;refine dG (by kernel_rfl) (by kernel_rfl) ?_
      repeat(go_big_quiet_step ((first|(go_at_call 151;refine gI (OY (hold l (m+1)) _))|(go_at_call 125;refine gI (Fh _ _ (by first|exact hK0.O|exact hK1.O))))))
      refine wpQuiet_nil ?_
      intro W2 hw';have hb2:=dD hw';clear hw';go_wp2_with fail;go_ret
      exact⟨iF (Mc hlt hst'.O).symm,hbw.trans (hb2.mono hbw.size)⟩
  ·obtain rfl:k=l.length:=by omega
   have bK:=ah (YU kE);go_wp2_with fail;go_ret
   exact⟨iF bK.O.symm,hbw⟩
end Wh
namespace Wh
open Go Go.RowKit Go.Shelf Go.Proofs Tryz
attribute [local go_sem] aT
theorem jdI{l:List dZ}{o ln b:Int}{k:Nat}(hk:k<l.length)(h:uS o ln b (hold l k)=true)(hn:∀j,j<k->uS o ln b (hold l j)=false):bW l o ln b=(hold l k).n:=by
 unfold bW;have:l.find? (uS o ln b)=some (hold l k):=by
  rw[List.find?_eq_some_iff_getElem]
  refine⟨h,k,hk,(iL hk).symm,λj hj=>?_⟩
  have:=hn j hj;rw[iL (by omega)]at this
  rw[this];rfl
 rw[this]
theorem jbE{l:List dZ}{o ln b:Int}(hn:∀j,j<l.length->uS o ln b (hold l j)=false):bW l o ln b=0:=by
 refine Dc λx hx hk=>?_
 obtain⟨i,hi,rfl⟩:=aV hx;have h:=hn i hi;rw[iL hi,CQ.2 hk]at h
 cases h
theorem jfY(o ln b:Int)(h:dZ):((h.aC==o)=false/\uS o ln b h=false)\/((h.aC==o)=true/\(h.aG==ln)=false/\uS o ln b h=false)\/
  ((h.aC==o)=true/\(h.aG==ln)=true/\(h.bin==b)=false/\uS o ln b h=false)\/((h.aC==o)=true/\(h.aG==ln)=true/\(h.bin==b)=true/\uS o ln b h=true):=by
 unfold uS;by_cases h1:h.aC=o<;>by_cases h2:h.aG=ln<;>by_cases h3:h.bin=b<;>simp[h1,h2,h3]
theorem Zy(w:World)(v:Value)(l:List dZ)(o ln b:Int)(hv:Sl ig w w.heap.size v l):
  Calls prog 108 #[v,.int .i64 o,.int .i64 ln,.int .i64 b] w λe w'=>e=.returned (.int .i64 (bW l o ln b))/\w=w':=by
 obtain⟨A,c,rfl,hl,hA⟩:=hv;go_enter func108,ntmps108
 go_wp2_with fail;go_loop[9] (λi=>∃k:Nat,k<=l.length/\i=.int .i64 k/\(∀j,j<k->uS o ln b (hold l j)=false)) (λi=>l.length - (RowKit.intOf i).toNat)
 case atStart=>exact⟨0,aK _,rfl,λj hj=>by omega⟩
 case round=>
  obtain⟨k,hk,rfl,kE⟩:=hrel;have hall':=ah kE;clear kE;by_cases hlt:k<l.length
  ·obtain⟨hok,LG,b0,b1,b2,b3⟩:=hA.hold hlt;rcases jfY o ln b (hold l k)with⟨g1,hs⟩|⟨g1,g2,hs⟩|⟨g1,g2,g3,hs⟩|⟨g1,g2,g3,hs⟩
   ·have hs':=ah hs;clear hs;go_wp2_with fail;go_round
    case rel=>
     refine⟨k+1,by omega,by go_num,λj hj=>?_⟩
     rcases aS.1 hj with h|rfl
     ·exact hall'.O j h
     ·exact hs'.O
    case measure=>simp[RowKit.intOf];omega
   ·have hs':=ah hs;clear hs;go_wp2_with fail;go_round
    case rel=>
     refine⟨k+1,by omega,by go_num,λj hj=>?_⟩
     rcases aS.1 hj with h|rfl
     ·exact hall'.O j h
     ·exact hs'.O
    case measure=>simp[RowKit.intOf];omega
   ·have hs':=ah hs;clear hs;go_wp2_with fail;go_round
    case rel=>
     refine⟨k+1,by omega,by go_num,λj hj=>?_⟩
     rcases aS.1 hj with h|rfl
     ·exact hall'.O j h
     ·exact hs'.O
    case measure=>simp[RowKit.intOf];omega
   ·have bK:=ah (jdI hlt hs hall'.O);clear hs;go_wp2_with fail;go_ret
    exact⟨iF bK.O.symm,rfl⟩
  ·obtain rfl:k=l.length:=by omega
   have bK:=ah (jbE hall'.O);go_wp2_with fail;go_ret
   exact⟨iF bK.O.symm,rfl⟩
theorem UN(w:World)(v:Value)(l:List dZ)(o ln:Int)(hv:Sl ig w w.heap.size v l)(hok:iD l=true):
  Calls prog 92 #[v,.int .i64 o,.int .i64 ln] w λe w'=>e=.returned (.int .i64 (kept l o ln))/\w=w':=by
 have hV:=hv;obtain⟨A,c,rfl,hl,hA⟩:=hv;obtain⟨g1,g2⟩:=gG.1 hok;have hr:=λb=>Fv g1 g2 o ln b
 have bK:=ah (Gj hok o ln);have hr':=ah hr;clear hok g1 g2 hr;go_enter func92,ntmps92
 go_wp2_with fail;go_loop[7,8] (λn i=>∃k:Nat,k<=6/\i=.int .i64 k/\n=.int .i64 (nH (λb=>bW l o ln b) k)) (λ_ i=>6 - (RowKit.intOf i).toNat)
 case atStart=>exact⟨0,by omega,rfl,rfl⟩
 case round=>
  obtain⟨k,hk,rfl,rfl⟩:=hrel;obtain⟨u1,u2⟩:=Du (f:=λb=>bW l o ln b) (n:=k) (m:=200) (λj _=>hr'.O j)
  have u3:nH (λb=>bW l o ln b) k<=1200:=by omega
  clear u2;by_cases hlt:k<6
  ·obtain⟨q1,q2⟩:=hr'.O k;go_wp2_with fail;refine(Zy _ _ _ _ _ _ hV).mono ?_
   rintro e w' ⟨rfl,rfl⟩;go_wp2_with fail;go_round
   case rel=>exact⟨k+1,by omega,by go_num,rfl⟩
   case measure=>simp[RowKit.intOf];omega
  ·obtain rfl:k=6:=by omega
   go_wp2_with fail;go_ret
   exact⟨iF bK.O.symm,rfl⟩
theorem jdC(o ln:Int)(h:dZ):((h.aC==o)=false/\Bz o ln h=false)\/((h.aC==o)=true/\(h.aG==ln)=false/\Bz o ln h=false)\/
  ((h.aC==o)=true/\(h.aG==ln)=true/\Bz o ln h=true):=by
 unfold Bz;by_cases h1:h.aC=o<;>by_cases h2:h.aG=ln<;>simp[h1,h2]
def Gl(l:List dZ)(o ln:Int)(k:Nat):Int:=kept (l.take k) o ln
theorem jdH{l:List dZ}{o ln:Int}{k:Nat}(hk:k<l.length)(h:Bz o ln (hold l k)=true):Gl l o ln (k+1)=Gl l o ln k+(hold l k).n:=by
 unfold Gl kept;rw[dO hk,jI,<- iL hk,lq,h];simp
theorem YQ{l:List dZ}{o ln:Int}{k:Nat}(hk:k<l.length)(h:Bz o ln (hold l k)=false):Gl l o ln (k+1)=Gl l o ln k:=by
 unfold Gl kept;rw[dO hk,jI,<- iL hk,lq,h];simp
theorem jkw{l:List dZ}(h:iD l=true)(k:Nat):iD (l.take k)=true:=by
 obtain⟨g1,g2⟩:=gG.1 h;exact gG.2 ⟨λx hx=>g1 x (tq hx),g2.sublist (List.take_sublist k l)⟩
theorem Xh{l:List dZ}:lT l=0↔iD l=true:=by
 unfold lT;cases iD l<;>simp
theorem jiL(w:World)(v:Value)(l:List dZ)(o ln:Int)(hv:Sl ig w w.heap.size v l):
  Calls prog 83 #[v,.int .i64 o,.int .i64 ln] w λe w'=>e=.returned (.tuple #[.int .i64 (Na l o ln).1,.int .i64 (Na l o ln).2])/\Below w.heap.size w w':=by
 have hV:=hv;obtain⟨A,c,rfl,hl,hA⟩:=hv;go_enter func83,ntmps83
 go_wp2_with fail;refine(UW _ _ _ hV).mono ?_
 rintro e W1 ⟨rfl,hb1⟩;cases hok:iD l
 ·have hc:lT l=1:=by unfold lT;rw[hok];rfl
  have hk:Na l o ln=(0,1):=by unfold Na;rw[hok];rfl
  have hk':=ah hk;rw[hc];clear hc hk;go_wp2_with fail;go_ret2
  exact⟨jdj (by rw[hk'.O];rfl) (by rw[hk'.O];rfl),hb1⟩
 ·have hc:lT l=0:=Xh.2 hok;have hk:Na l o ln=(kept l o ln,0):=by unfold Na;rw[hok];rfl
  have hrg:=λk=>vK (jkw hok k) o ln
  have jdT:=ah hrg;have hk':=ah hk;rw[hc];clear hc hk hok hrg;go_wp2_with fail;go_loopw[9,19,11] (λn i _ wr=>∃k:Nat,k<=l.length/\i=.int .i64 k/\n=.int .i64 (Gl l o ln k)/\Below W1.heap.size W1 wr) (λ_ i _ _=>l.length - (RowKit.intOf i).toNat)
  case atStart=>exact⟨0,aK _,rfl,rfl,aj _ _⟩
  case round=>
   obtain⟨k,hk,rfl,rfl,hbw⟩:=hrel;obtain⟨u1,u2⟩:=jdT.O k;change 0<=Gl l o ln k at u1
   change Gl l o ln k<=1200 at u2
   by_cases hlt:k<l.length
   ·have X3:=hb1.trans (hbw.mono hb1.size);obtain⟨hok,LG,b0,b1,b2,b3⟩:=(hA.up X3 X3.size).hold hlt;obtain⟨u3,u4⟩:=jdT.O (k+1);change 0<=Gl l o ln (k+1)at u3
    change Gl l o ln (k+1)<=1200 at u4
    rcases jdC o ln (hold l k)with⟨g1,hs⟩|⟨g1,g2,hs⟩|⟨g1,g2,hs⟩
    ·have hs':=ah (YQ hlt hs);clear hs;go_wp2_with fail;go_roundw
     case rel=>exact⟨k+1,by omega,by go_num,by rw[hs'.O],hbw.alloc hbw.size _⟩
     case measure=>simp[RowKit.intOf];omega
    ·have hs':=ah (YQ hlt hs);clear hs;go_wp2_with fail;go_roundw
     case rel=>exact⟨k+1,by omega,by go_num,by rw[hs'.O],hbw.alloc hbw.size _⟩
     case measure=>simp[RowKit.intOf];omega
    ·have hs':=ah (jdH hlt hs);rw[hs'.O]at u3 u4
     clear hs;go_wp2_with fail;go_roundw
     case rel=>exact⟨k+1,by omega,by go_num,by rw[hs'.O],hbw.alloc hbw.size _⟩
     case measure=>simp[RowKit.intOf];omega
   ·obtain rfl:k=l.length:=by omega
    have bK:=ah (show Gl l o ln l.length=kept l o ln by unfold Gl;rw[fG])
    go_wp2_with fail;go_ret2
    exact⟨jdj (by rw[hk'.O,<- bK.O];rfl) (by rw[hk'.O];rfl),hb1.trans (hbw.mono hb1.size)⟩
theorem Sv{P:Program}{t:TypeId}(hS:P.underlying t=some (.struct (P.fieldsOf t)))(hp:P.stoodInHeld t=false)(xs ys:Array Value)(b:Bool)(h:∀w,(Op.eqFields 9999 xs ys (P.fieldsOf t).toList).run P w=.ok b w)(w:World):
  (binOp .neq t (.agg xs) (.agg ys)).run P w=.ok (.bool (!b)) w:=by
 rw[run_neq_struct,show(10000:Nat)=9999+1 from rfl,run_equalIn_agg w 9999 t _ _ hS hp,h]
 rfl
theorem jkQ{x y:dZ}:x=y↔x.aC=y.aC/\x.aG=y.aG/\x.bin=y.bin/\x.n=y.n:=by
 cases x;cases y;simp
theorem jkz(x y:dZ)(w:World):(binOp .neq 46 (.agg #[.int .i64 (x).aC,.int .i64 (x).aG,.int .i64 (x).bin,.int .i64 (x).n]) (.agg #[.int .i64 (y).aC,.int .i64 (y).aG,.int .i64 (y).bin,.int .i64 (y).n])).run prog w=.ok (.bool (!decide (x=y))) w:=by
 refine Sv (by kernel_rfl) (by kernel_rfl) _ _ _ (λw=>?_) w
 have u3:=underlying3;have a3:=isAgg3;have z3:=sizeOf3;simp only[Program.fieldsOf,underlying46];go_simp
 by_cases h1:x.aC=y.aC<;>by_cases h2:x.aG=y.aG<;>by_cases h3:x.bin=y.bin<;>by_cases h4:x.n=y.n<;>simp[h1,h2,h3,h4,jkQ]
theorem jdm(w:World)(va vb:Value)(a b:List dZ)(ha:Sl ig w w.heap.size va a)(hb:Sl ig w w.heap.size vb b):
  Calls prog 25 #[va,vb] w λe w'=>e=.returned (.bool (decide (a=b)))/\Below w.heap.size w w':=by
 obtain⟨A,c,rfl,hl,hA⟩:=ha;obtain⟨B,d,rfl,hl2,hB⟩:=hb;have hq:=jkz;have hg:prog.eqGuardType prog.depth 46=false:=by kernel_rfl
 go_enter func25,ntmps25
 by_cases kD:a.length=b.length
 ·have hnb:((a.length:Int)!=(b.length:Int))=false:=by rw[kD];simp
  have hle1:=jy kD;have hle2:=jy kD.symm;have hlen':=ah kD;clear kD;go_wp2_with fail;go_loopw[5] (λi wr=>∃k:Nat,k<=a.length/\i=.int .i64 k/\(∀j,j<k->hold a j=hold b j)/\Below w.heap.size w wr) (λi _=>a.length - (RowKit.intOf i).toNat)
  case atStart=>exact⟨0,aK _,rfl,λj hj=>by omega,aj _ _⟩
  case round=>
   obtain⟨k,hk,rfl,kE,hbw⟩:=hrel;have hall':=ah kE;clear kE;by_cases hlt:k<a.length
   ·have hlt2:k<b.length:=by omega
    obtain⟨o1,o2,o3,o4,o5,o6⟩:=(hA.up hbw hbw.size).hold hlt;obtain⟨p1,p2,p3,p4,p5,p6⟩:=(hB.up hbw hbw.size).hold hlt2;by_cases he:hold a k=hold b k
    ·have heb:decide (hold a k=hold b k)=true:=by rw[he];simp
     have he':=ah he;clear he;go_wp2_with fail;go_quiet (fail)
     go_wp2_with fail;go_roundw
     case rel=>
      refine⟨k+1,by omega,by go_num,λj hj=>?_,below_drewN hbw _⟩
      rcases aS.1 hj with h|rfl
      ·exact hall'.O j h
      ·exact he'.O
     case measure=>simp[RowKit.intOf];omega
    ·have heb:decide (hold a k=hold b k)=false:=by simp[he]
     have hne:=ah (show a≠b from λe=>he (by rw[e]))
     go_wp2_with fail;go_quiet (fail)
     go_wp2_with fail;go_ret
     exact⟨fK (by rw[fA hne.O]),below_drewN hbw _⟩
   ·obtain rfl:k=a.length:=by omega
    have heq:a=b:=lW hlen'.O λi h1 h2=>by rw[<- iL h1,<- iL h2];exact hall'.O i h1
    have heq':=ah heq;clear heq;go_wp2_with fail;go_ret
    exact⟨fK (by rw[iG heq'.O]),hbw⟩
 ·have hne:=ah (show a≠b from λe=>kD (by rw[e]))
  have hnb:((a.length:Int)!=(b.length:Int))=true:=by simp;omega
  go_wp2_with fail;go_ret
  exact⟨fK (by rw[fA hne.O]),aj _ _⟩
end Wh
