/- Texts of the claim, joined. -/
import Derived.StillTailTactics
import Derived.Test.YtfhfkijmebhgmaaGreatQ32
set_option maxHeartbeats 20000000
set_option maxRecDepth 100000
namespace Wh
open Go Go.RowKit Go.Shelf Go.Proofs Tryz
attribute [local go_sem] au dQ dI dX
theorem Vl (w:World) (p:Plan) (s:State) (Ab:Option Addr) (cb:Nat) (As:Option Addr) (cs:Nat) (A0:Option Addr) (c0:Nat) (A1:Option Addr) (c1:Nat) (A2:Option Addr) (c2:Nat) (A3:Option Addr) (c3:Nat) (A4:Option Addr) (c4:Nat) (A5:Option Addr) (c5:Nat) (A6:Option Addr) (c6:Nat) (kd xa xb xc xn:Int) (Al:Option Addr) (ln cl:Nat):
  ∃ W0:World,((w.alloc (.cells #[.slice Ab p.aH.length cb,.slice As p.sizes.length cs] 25)).alloc (.cells #[.slice A0 s.on.length c0,.slice A1 s.orders.length c1,.slice A2 s.holds.length c2,.slice A3 s.moves.length c3,.slice A4 s.inn.length c4,.slice A5 s.out.length c5,.slice A6 s.fixed.length c6] 31)).alloc (.cells #[.int .i64 kd,.int .i64 xa,.int .i64 xb,.int .i64 xc,.int .i64 xn,.slice Al ln cl] 34)=W0∧Below w.heap.size w W0∧Hid (W0.heap.size=w.heap.size+1+1+1)∧
   Hid (∀ W,Below W0.heap.size W0 W→(W.cell? ⟨w.heap.size,0,none⟩=some (.slice Ab p.aH.length cb)∧W.cell? ⟨w.heap.size,1,none⟩=some (.slice As p.sizes.length cs))∧W.cell? ⟨w.heap.size+1,0,none⟩=some (.slice A0 s.on.length c0)∧W.cell? ⟨w.heap.size+1,1,none⟩=some (.slice A1 s.orders.length c1)∧W.cell? ⟨w.heap.size+1,2,none⟩=some (.slice A2 s.holds.length c2)∧W.cell? ⟨w.heap.size+1,3,none⟩=some (.slice A3 s.moves.length c3)∧W.cell? ⟨w.heap.size+1,4,none⟩=some (.slice A4 s.inn.length c4)∧W.cell? ⟨w.heap.size+1,5,none⟩=some (.slice A5 s.out.length c5)∧W.cell? ⟨w.heap.size+1,6,none⟩=some (.slice A6 s.fixed.length c6)∧w.heap.size+1<W.heap.size∧w.heap.size<W.heap.size)∧
   Hid (∀ W,Below W0.heap.size W0 W→W.cell? ⟨w.heap.size+1+1,0,none⟩=some (.int .i64 kd)∧W.cell? ⟨w.heap.size+1+1,1,none⟩=some (.int .i64 xa)∧W.cell? ⟨w.heap.size+1+1,2,none⟩=some (.int .i64 xb)∧W.cell? ⟨w.heap.size+1+1,3,none⟩=some (.int .i64 xc)∧W.cell? ⟨w.heap.size+1+1,4,none⟩=some (.int .i64 xn)∧W.cell? ⟨w.heap.size+1+1,5,none⟩=some (.slice Al ln cl)∧w.heap.size+1+1<W.heap.size):=by
 obtain ⟨W1,e1,b1,s1,s2,s3,hK⟩:=uS w p s Ab cb As cs A0 c0 A1 c1 A2 c2 A3 c3 A4 c4 A5 c5 A6 c6;rw [e1];have e3:W1.heap.size=w.heap.size+1+1:=s3;have ha:Below W1.heap.size W1 (W1.alloc (.cells #[.int .i64 kd,.int .i64 xa,.int .i64 xb,.int .i64 xc,.int .i64 xn,.slice Al ln cl] 34)):=(aj _ _).alloc (aA _) _;have h1:dw (W1.alloc (.cells #[.int .i64 kd,.int .i64 xa,.int .i64 xb,.int .i64 xc,.int .i64 xn,.slice Al ln cl] 34)) W1.heap.size 34 [.int .i64 kd,.int .i64 xa,.int .i64 xb,.int .i64 xc,.int .i64 xn,.slice Al ln cl]:=dw.new _ _ _;rw [e3] at h1
 refine ⟨_,rfl,b1.trans (ha.mono b1.size),Lib.hid (by simp [e3]),Lib.hid fun W hW=>Gn hK W (ha.trans (hW.mono ha.size)),Lib.hid fun W hW=>?_⟩
 have k:=h1.below hW (by simp;omega)
 exact ⟨k.cell rfl,k.cell rfl,k.cell rfl,k.cell rfl,k.cell rfl,k.cell rfl,k.lt⟩
theorem oJ (w:World) (p:Plan) (s:State) (Ab:Option Addr) (cb:Nat) (As:Option Addr) (cs:Nat) (A0:Option Addr) (c0:Nat) (A1:Option Addr) (c1:Nat) (A2:Option Addr) (c2:Nat) (A3:Option Addr) (c3:Nat) (A4:Option Addr) (c4:Nat) (A5:Option Addr) (c5:Nat) (A6:Option Addr) (c6:Nat) (kd xa xb xc xn:Int) (Al:Option Addr) (ln cl:Nat):
  ∃ W0:World,(((w.alloc (.cells #[.slice Ab p.aH.length cb,.slice As p.sizes.length cs] 25)).alloc (.cells #[.slice A0 s.on.length c0,.slice A1 s.orders.length c1,.slice A2 s.holds.length c2,.slice A3 s.moves.length c3,.slice A4 s.inn.length c4,.slice A5 s.out.length c5,.slice A6 s.fixed.length c6] 31)).alloc (.cells #[.int .i64 kd,.int .i64 xa,.int .i64 xb,.int .i64 xc,.int .i64 xn,.slice Al ln cl] 34)).alloc (.cells #[.slice none 0 0,.slice none 0 0,.slice none 0 0,.slice none 0 0,.slice none 0 0,.slice none 0 0,.slice none 0 0] 31)=W0∧Below w.heap.size w W0∧Hid (W0.heap.size=w.heap.size+1+1+1+1)∧
   Hid (∀ W,Below W0.heap.size W0 W→(W.cell? ⟨w.heap.size,0,none⟩=some (.slice Ab p.aH.length cb)∧W.cell? ⟨w.heap.size,1,none⟩=some (.slice As p.sizes.length cs))∧W.cell? ⟨w.heap.size+1,0,none⟩=some (.slice A0 s.on.length c0)∧W.cell? ⟨w.heap.size+1,1,none⟩=some (.slice A1 s.orders.length c1)∧W.cell? ⟨w.heap.size+1,2,none⟩=some (.slice A2 s.holds.length c2)∧W.cell? ⟨w.heap.size+1,3,none⟩=some (.slice A3 s.moves.length c3)∧W.cell? ⟨w.heap.size+1,4,none⟩=some (.slice A4 s.inn.length c4)∧W.cell? ⟨w.heap.size+1,5,none⟩=some (.slice A5 s.out.length c5)∧W.cell? ⟨w.heap.size+1,6,none⟩=some (.slice A6 s.fixed.length c6)∧w.heap.size+1<W.heap.size∧w.heap.size<W.heap.size)∧
   Hid (∀ W,Below W0.heap.size W0 W→W.cell? ⟨w.heap.size+1+1,0,none⟩=some (.int .i64 kd)∧W.cell? ⟨w.heap.size+1+1,1,none⟩=some (.int .i64 xa)∧W.cell? ⟨w.heap.size+1+1,2,none⟩=some (.int .i64 xb)∧W.cell? ⟨w.heap.size+1+1,3,none⟩=some (.int .i64 xc)∧W.cell? ⟨w.heap.size+1+1,4,none⟩=some (.int .i64 xn)∧W.cell? ⟨w.heap.size+1+1,5,none⟩=some (.slice Al ln cl)∧w.heap.size+1+1<W.heap.size)∧Hid (∀ W,Below W0.heap.size W0 W→dN W (w.heap.size+1+1+1) aP):=by
 obtain ⟨W1,e1,b1,s3,hK,hD⟩:=Vl w p s Ab cb As cs A0 c0 A1 c1 A2 c2 A3 c3 A4 c4 A5 c5 A6 c6 kd xa xb xc xn Al ln cl;rw [e1];have e3:W1.heap.size=w.heap.size+1+1+1:=s3;have ha:Below W1.heap.size W1 (W1.alloc (.cells #[.slice none 0 0,.slice none 0 0,.slice none 0 0,.slice none 0 0,.slice none 0 0,.slice none 0 0,.slice none 0 0] 31)):=(aj _ _).alloc (aA _) _;have h1:dw (W1.alloc (.cells #[.slice none 0 0,.slice none 0 0,.slice none 0 0,.slice none 0 0,.slice none 0 0,.slice none 0 0,.slice none 0 0] 31)) W1.heap.size 31 [.slice none 0 0,.slice none 0 0,.slice none 0 0,.slice none 0 0,.slice none 0 0,.slice none 0 0,.slice none 0 0]:=dw.new _ _ _;rw [e3] at h1
 exact ⟨_,rfl,b1.trans (ha.mono b1.size),Lib.hid (by simp [e3]),Lib.hid fun W hW=>Gn hK W (ha.trans (hW.mono ha.size)),Lib.hid fun W hW=>Gn hD W (ha.trans (hW.mono ha.size)),Lib.hid fun W hW=>h1.below hW (by simp;omega)⟩
theorem jko (w:World) (v vs vd:Value) (p:Plan) (s:State) (x:qo) (hp:fZ w w.heap.size v p) (hv:fE w w.heap.size vs s) (hd:OC w w.heap.size vd x):
  Calls prog 17 #[v,vs,vd] w (gU (act p s x) w):=by
 obtain ⟨Ab,cb,As,cs,rfl,hP',hBn,hSz,hlb,hls⟩:=kN hp;obtain ⟨A0,c0,A1,c1,A2,c2,A3,c3,A4,c4,A5,c5,A6,c6,rfl,hV,hN,hO,hH,hM,hI,hU,hX,hl0,hl1,hl2,hl3,hl4,hl5,CW⟩:=iG hv;obtain ⟨Al,cl,rfl,hDV,hLn,hll⟩:=LW hd;obtain ⟨kd,xa,xb,xc,xn,l⟩:=x;simp only at hDV hLn hll ⊢
 clear hd hp hv;by_cases k1:kd=1
 ·rw [show act p s ⟨kd,xa,xb,xc,xn,l⟩=receive p s xa xb xn by rw [k1];rfl]
  have q1:(kd==1)=true:=by simpa using k1
  clear k1;go_enter func17,ntmps17
  go_wp2_with fail;obtain ⟨W0,hW0,hb0,hsE,hK,hD,hR⟩:=oJ w p s Ab cb As cs A0 c0 A1 c1 A2 c2 A3 c3 A4 c4 A5 c5 A6 c6 kd xa xb xc xn Al l.length cl;rw [hW0];clear hW0;refine (Yq _ _ _ p s xa xb xn (hP'.out _ hb0) (hV.out _ hb0)).mono ?_
  rintro e W1 ⟨V1,rfl,ho1,hb1⟩;have aX:=hR.out _ hb1;have eU:=aO.one ho1;go_wp2_with (refine aK (.tmp 6) (.tmp 21) aP V1 rfl aX rfl eU (fun w9 aN dh=>?_))
  have ng:=aO.keptBy ho1 dh aX (by decide) (by decide) (by decide) (by decide) (by decide) (by decide)
  have hB1:=hb0.trans (hb1.mono hb0.size);have hle:=hb0.size;have aQ:=Below.bG hB1 dh;go_wp2_with fail;exact dn results17 aN rfl rfl (show gU (receive p s xa xb xn) w _ w9 from ⟨V1,rfl,ng.from_ hle,aQ⟩)
 have q1:(kd==1)=false:=by simpa using k1
 by_cases k2:kd=2
 ·rw [show act p s ⟨kd,xa,xb,xc,xn,l⟩=enter p s l by rw [k2];rfl]
  have q2:(kd==2)=true:=by simpa using k2
  clear k1 k2;go_enter func17,ntmps17
  go_wp2_with fail;obtain ⟨W0,hW0,hb0,hsE,hK,hD,hR⟩:=oJ w p s Ab cb As cs A0 c0 A1 c1 A2 c2 A3 c3 A4 c4 A5 c5 A6 c6 kd xa xb xc xn Al l.length cl;rw [hW0];clear hW0;refine (jdi _ _ _ _ p s l (hP'.out _ hb0) (hV.out _ hb0) (hLn.out _ hb0)).mono ?_
  rintro e W1 ⟨V1,rfl,ho1,hb1⟩;have aX:=hR.out _ hb1;have eU:=aO.one ho1;go_wp2_with (refine aK (.tmp 6) (.tmp 30) aP V1 rfl aX rfl eU (fun w9 aN dh=>?_))
  have ng:=aO.keptBy ho1 dh aX (by decide) (by decide) (by decide) (by decide) (by decide) (by decide)
  have hB1:=hb0.trans (hb1.mono hb0.size);have hle:=hb0.size;have aQ:=Below.bG hB1 dh;go_wp2_with fail;exact dn results17 aN rfl rfl (show gU (enter p s l) w _ w9 from ⟨V1,rfl,ng.from_ hle,aQ⟩)
 have q2:(kd==2)=false:=by simpa using k2
 by_cases k3:kd=3
 ·rw [show act p s ⟨kd,xa,xb,xc,xn,l⟩=release p s by rw [k3];rfl]
  have q3:(kd==3)=true:=by simpa using k3
  clear k1 k2 k3;go_enter func17,ntmps17
  go_wp2_with fail;obtain ⟨W0,hW0,hb0,hsE,hK,hD,hR⟩:=oJ w p s Ab cb As cs A0 c0 A1 c1 A2 c2 A3 c3 A4 c4 A5 c5 A6 c6 kd xa xb xc xn Al l.length cl;rw [hW0];clear hW0;refine (jc5 _ _ _ p s (hP'.out _ hb0) (hV.out _ hb0)).mono ?_
  rintro e W1 ⟨V1,rfl,ho1,hb1⟩;have aX:=hR.out _ hb1;have eU:=aO.one ho1;go_wp2_with (refine aK (.tmp 6) (.tmp 37) aP V1 rfl aX rfl eU (fun w9 aN dh=>?_))
  have ng:=aO.keptBy ho1 dh aX (by decide) (by decide) (by decide) (by decide) (by decide) (by decide)
  have hB1:=hb0.trans (hb1.mono hb0.size);have hle:=hb0.size;have aQ:=Below.bG hB1 dh;go_wp2_with fail;exact dn results17 aN rfl rfl (show gU (release p s) w _ w9 from ⟨V1,rfl,ng.from_ hle,aQ⟩)
 have q3:(kd==3)=false:=by simpa using k3
 by_cases k4:kd=4
 ·rw [show act p s ⟨kd,xa,xb,xc,xn,l⟩=cancel p s xa by rw [k4];rfl]
  have q4:(kd==4)=true:=by simpa using k4
  clear k1 k2 k3 k4;go_enter func17,ntmps17
  go_wp2_with fail;obtain ⟨W0,hW0,hb0,hsE,hK,hD,hR⟩:=oJ w p s Ab cb As cs A0 c0 A1 c1 A2 c2 A3 c3 A4 c4 A5 c5 A6 c6 kd xa xb xc xn Al l.length cl;rw [hW0];clear hW0;refine (jek _ _ _ p s xa (hP'.out _ hb0) (hV.out _ hb0)).mono ?_
  rintro e W1 ⟨V1,rfl,ho1,hb1⟩;have aX:=hR.out _ hb1;have eU:=aO.one ho1;go_wp2_with (refine aK (.tmp 6) (.tmp 46) aP V1 rfl aX rfl eU (fun w9 aN dh=>?_))
  have ng:=aO.keptBy ho1 dh aX (by decide) (by decide) (by decide) (by decide) (by decide) (by decide)
  have hB1:=hb0.trans (hb1.mono hb0.size);have hle:=hb0.size;have aQ:=Below.bG hB1 dh;go_wp2_with fail;exact dn results17 aN rfl rfl (show gU (cancel p s xa) w _ w9 from ⟨V1,rfl,ng.from_ hle,aQ⟩)
 have q4:(kd==4)=false:=by simpa using k4
 by_cases k5:kd=5
 ·rw [show act p s ⟨kd,xa,xb,xc,xn,l⟩=pick p s xa xb xc xn by rw [k5];rfl]
  have q5:(kd==5)=true:=by simpa using k5
  clear k1 k2 k3 k4 k5;go_enter func17,ntmps17
  go_wp2_with fail;obtain ⟨W0,hW0,hb0,hsE,hK,hD,hR⟩:=oJ w p s Ab cb As cs A0 c0 A1 c1 A2 c2 A3 c3 A4 c4 A5 c5 A6 c6 kd xa xb xc xn Al l.length cl;rw [hW0];clear hW0;refine (jkc _ _ _ p s xa xb xc xn (hP'.out _ hb0) (hV.out _ hb0)).mono ?_
  rintro e W1 ⟨V1,rfl,ho1,hb1⟩;have aX:=hR.out _ hb1;have eU:=aO.one ho1;go_wp2_with (refine aK (.tmp 6) (.tmp 61) aP V1 rfl aX rfl eU (fun w9 aN dh=>?_))
  have ng:=aO.keptBy ho1 dh aX (by decide) (by decide) (by decide) (by decide) (by decide) (by decide)
  have hB1:=hb0.trans (hb1.mono hb0.size);have hle:=hb0.size;have aQ:=Below.bG hB1 dh;go_wp2_with fail;exact dn results17 aN rfl rfl (show gU (pick p s xa xb xc xn) w _ w9 from ⟨V1,rfl,ng.from_ hle,aQ⟩)
 have q5:(kd==5)=false:=by simpa using k5
 by_cases k6:kd=6
 ·rw [show act p s ⟨kd,xa,xb,xc,xn,l⟩=fill p s by rw [k6];rfl]
  have q6:(kd==6)=true:=by simpa using k6
  clear k1 k2 k3 k4 k5 k6;go_enter func17,ntmps17
  go_wp2_with fail;obtain ⟨W0,hW0,hb0,hsE,hK,hD,hR⟩:=oJ w p s Ab cb As cs A0 c0 A1 c1 A2 c2 A3 c3 A4 c4 A5 c5 A6 c6 kd xa xb xc xn Al l.length cl;rw [hW0];clear hW0;refine (jlC _ _ _ p s (hP'.out _ hb0) (hV.out _ hb0)).mono ?_
  rintro e W1 ⟨V1,rfl,ho1,hb1⟩;have aX:=hR.out _ hb1;have eU:=aO.one ho1;go_wp2_with (refine aK (.tmp 6) (.tmp 68) aP V1 rfl aX rfl eU (fun w9 aN dh=>?_))
  have ng:=aO.keptBy ho1 dh aX (by decide) (by decide) (by decide) (by decide) (by decide) (by decide)
  have hB1:=hb0.trans (hb1.mono hb0.size);have hle:=hb0.size;have aQ:=Below.bG hB1 dh;go_wp2_with fail;exact dn results17 aN rfl rfl (show gU (fill p s) w _ w9 from ⟨V1,rfl,ng.from_ hle,aQ⟩)
 have q6:(kd==6)=false:=by simpa using k6
 by_cases k7:kd=7
 ·rw [show act p s ⟨kd,xa,xb,xc,xn,l⟩=moved p s xa xn by rw [k7];rfl]
  have q7:(kd==7)=true:=by simpa using k7
  clear k1 k2 k3 k4 k5 k6 k7;go_enter func17,ntmps17
  go_wp2_with fail;obtain ⟨W0,hW0,hb0,hsE,hK,hD,hR⟩:=oJ w p s Ab cb As cs A0 c0 A1 c1 A2 c2 A3 c3 A4 c4 A5 c5 A6 c6 kd xa xb xc xn Al l.length cl;rw [hW0];clear hW0;refine (jiL _ _ _ p s xa xn (hP'.out _ hb0) (hV.out _ hb0)).mono ?_
  rintro e W1 ⟨V1,rfl,ho1,hb1⟩;have aX:=hR.out _ hb1;have eU:=aO.one ho1;go_wp2_with (refine aK (.tmp 6) (.tmp 79) aP V1 rfl aX rfl eU (fun w9 aN dh=>?_))
  have ng:=aO.keptBy ho1 dh aX (by decide) (by decide) (by decide) (by decide) (by decide) (by decide)
  have hB1:=hb0.trans (hb1.mono hb0.size);have hle:=hb0.size;have aQ:=Below.bG hB1 dh;go_wp2_with fail;exact dn results17 aN rfl rfl (show gU (moved p s xa xn) w _ w9 from ⟨V1,rfl,ng.from_ hle,aQ⟩)
 have q7:(kd==7)=false:=by simpa using k7
 by_cases k8:kd=8
 ·rw [show act p s ⟨kd,xa,xb,xc,xn,l⟩=count p s xa xb xn by rw [k8];rfl]
  have q8:(kd==8)=true:=by simpa using k8
  clear k1 k2 k3 k4 k5 k6 k7 k8;go_enter func17,ntmps17
  go_wp2_with fail;obtain ⟨W0,hW0,hb0,hsE,hK,hD,hR⟩:=oJ w p s Ab cb As cs A0 c0 A1 c1 A2 c2 A3 c3 A4 c4 A5 c5 A6 c6 kd xa xb xc xn Al l.length cl;rw [hW0];clear hW0;refine (jiY _ _ _ p s xa xb xn (hP'.out _ hb0) (hV.out _ hb0)).mono ?_
  rintro e W1 ⟨V1,rfl,ho1,hb1⟩;have aX:=hR.out _ hb1;have eU:=aO.one ho1;go_wp2_with (refine aK (.tmp 6) (.tmp 92) aP V1 rfl aX rfl eU (fun w9 aN dh=>?_))
  have ng:=aO.keptBy ho1 dh aX (by decide) (by decide) (by decide) (by decide) (by decide) (by decide)
  have hB1:=hb0.trans (hb1.mono hb0.size);have hle:=hb0.size;have aQ:=Below.bG hB1 dh;go_wp2_with fail;exact dn results17 aN rfl rfl (show gU (count p s xa xb xn) w _ w9 from ⟨V1,rfl,ng.from_ hle,aQ⟩)
 have q8:(kd==8)=false:=by simpa using k8
 ·rw [show act p s ⟨kd,xa,xb,xc,xn,l⟩=(dJ,8) by unfold act;simp only [k1,k2,k3,k4,k5,k6,k7,k8,yN]]
  clear k1 k2 k3 k4 k5 k6 k7 k8;obtain ⟨W0,hW0,hb0,hsE,hK,hD,hR⟩:=oJ w p s Ab cb As cs A0 c0 A1 c1 A2 c2 A3 c3 A4 c4 A5 c5 A6 c6 kd xa xb xc xn Al l.length cl;subst hW0;have aX:=hR.out _ (aj _ _);go_enter func17,ntmps17
  go_wp2_with (refine aK (.tmp 6) (.tmp 94) aP aP rfl aX rfl rfl (fun w9 aN dh=>?_))
  have hle:=hb0.size;have aQ:=Below.bG hb0 dh;go_wp2_with fail;exact dn results17 aN rfl rfl (dF rfl aQ)
end Wh
namespace Wh
open Go Go.RowKit Go.Shelf Go.Proofs Tryz
attribute [local go_sem] au
theorem jaN (w:World) (v vs:Value) (p:Plan) (s:State) (b g n:Int) (hp:fZ w w.heap.size v p) (hv:fE w w.heap.size vs s):
  Calls prog 51 #[v,vs,.int .i64 b,.int .i64 g,.int .i64 n] w (gU (receive p s b g n) w):=by
 obtain ⟨Ab,cb,As,cs,rfl,hP',hBn,hSz,hlb,hls⟩:=kN hp;obtain ⟨A0,c0,A1,c1,A2,c2,A3,c3,A4,c4,A5,c5,A6,c6,rfl,hV,hN,hO,hH,hM,hI,hU,hX,hl0,hl1,hl2,hl3,hl4,hl5,CW⟩:=iG hv;go_enter func51,ntmps51
 go_wp2_with fail;obtain ⟨W0,hW0,hb0,hsz0,hsz1,hsE,hK,hR⟩:=oH w p s Ab cb As cs A0 c0 A1 c1 A2 c2 A3 c3 A4 c4 A5 c5 A6 c6;rw [hW0];clear hW0;obtain ⟨⟨y0,y1⟩,x0,x1,x2,x3,x4,x5,x6,aV,aW⟩:=hK.out W0 (aj W0.heap.size W0);go_wp2_with fail;clear y0 y1 x0 x1 x2 x3 x4 x5 x6 aV aW;refine (qw _ _ _ p s (hP'.out _ hb0) (hV.out _ hb0)).mono ?_
 rintro e W1 ⟨rfl,h1⟩;have hB1:=hb0.trans (h1.mono hb0.size);obtain ⟨⟨y0,y1⟩,x0,x1,x2,x3,x4,x5,x6,aV,aW⟩:=hK.out W1 (h1);by_cases hc:checkState p s=0
 ·have hc':=Lib.hid hc;have hsn:=Lib.hid (dV.1 hc).1;rw [hc];clear hc;go_wp2_with fail;clear y0 y1 x0 x1 x2 x3 x4 x5 x6 aV aW;have hcnt:=hsn.out.counts;refine (vw _ _ p b (hP'.out _ hB1) (by omega)).mono ?_
  rintro e W2 ⟨rfl,h2⟩;have h02:=h1.trans (h2.mono h1.size);have hB2:=hb0.trans (h02.mono hb0.size);obtain ⟨⟨y0,y1⟩,x0,x1,x2,x3,x4,x5,x6,aV,aW⟩:=hK.out W2 (h02);cases hth:fD p b
  ·have hfin:=Lib.hid (rD (g:=g) (n:=n) hc'.out (by rw [hth];rfl))
   clear hth;have aX:=hR.out _ h02;go_wp2_with (refine aK (.tmp 10) (.tmp 36) aP aP rfl aX rfl rfl (fun w9 aN dh=>?_))
   have aQ:=Below.bG hB2 dh;go_wp2_with fail;exact dn results51 aN rfl rfl (dF hfin.out aQ)
  ·have hbb:=Lib.hid (oU.1 hth);have jdD:=Lib.hid hth;clear hth;go_wp2_with fail;clear y0 y1 x0 x1 x2 x3 x4 x5 x6 aV aW;refine (uV _ _ p g (hP'.out _ hB2) (by omega)).mono ?_
   rintro e W8 ⟨rfl,h8⟩;have ug:=h02.trans (h8.mono h02.size);have OJ:=hb0.trans (ug.mono hb0.size);obtain ⟨⟨y0,y1⟩,x0,x1,x2,x3,x4,x5,x6,aV,aW⟩:=hK.out W8 (ug);cases hth:bU p g
   ·have hfin:=Lib.hid (rD (n:=n) hc'.out (by rw [jdD.out,hth];rfl))
    clear hth;have aX:=hR.out _ ug;go_wp2_with (refine aK (.tmp 10) (.tmp 36) aP aP rfl aX rfl rfl (fun w9 aN dh=>?_))
    have aQ:=Below.bG OJ dh;go_wp2_with fail;exact dn results51 aN rfl rfl (dF hfin.out aQ)
   have WA:=Lib.hid (show (fD p b&&bU p g)=true by rw [jdD.out,hth];rfl)
   have hgg:=Lib.hid (lM.1 hth);clear hth;go_wp2_with fail;clear y0 y1 x0 x1 x2 x3 x4 x5 x6 aV aW;refine (iw n 1 200 _).mono ?_
   rintro e w' ⟨rfl,rfl⟩;obtain ⟨⟨y0,y1⟩,x0,x1,x2,x3,x4,x5,x6,aV,aW⟩:=hK.out W8 (ug);cases hwn:within n 1 200
   ·have hfin:=Lib.hid (rD (b:=b) (g:=g) (n:=n) hc'.out (by rw [hwn,P8]))
    clear hwn;have aX:=hR.out _ ug;go_wp2_with (refine aK (.tmp 10) (.tmp 36) aP aP rfl aX rfl rfl (fun w9 aN dh=>?_))
    have aQ:=Below.bG OJ dh;go_wp2_with fail;exact dn results51 aN rfl rfl (dF hfin.out aQ)
   ·have jpU:=Lib.hid hwn;obtain ⟨hn1,hn2⟩:=within_iff.1 hwn;clear hwn;have hall:=Lib.hid (show (fD p b&&bU p g&&within n 1 200)=true by rw [WA.out,jpU.out];rfl)
    have hb1:0≤b:=hbb.out.1;have hb2:b<(s.on.length:Int):=by rw [hsn.out.ku];exact hbb.out.2
    have hg1:0≤g:=hgg.out.1;have hg2:g<(p.sizes.length:Int):=hgg.out.2;have hbl:b.toNat<s.on.length:=by omega
    have hgs:g.toNat<p.sizes.length:=by omega
    have hgl:g.toNat<(rowAt s.on b.toNat).length:=by rw [hsn.out.rowLen (by have:=hbb.out;omega)];omega
    have hgr:g<((rowAt s.on b.toNat).length:Int):=by omega
    have hgi:g<(s.inn.length:Int):=by rw [hsn.out.inn.1];omega
    obtain ⟨z1,z2⟩:=pR hsn.out.plan hgs;have hm1:=Jb (a:=n) (b:=aC p.sizes g.toNat) (by omega) ⟨z1,z2⟩
    have hw1:IntKind.i64.wrap (n*aC p.sizes g.toNat)=n*aC p.sizes g.toNat:=bf _ (by omega)
    obtain ⟨os0,ls0,rs0⟩:=(hSz.out W8 OJ).at_.int hgs;have q0:=fun o d os=>aG (w:=W8) (b:=w.heap.size) aW o d os
    have q1:=fun o d os=>aG (w:=W8) (b:=w.heap.size+1) aV o d os
    have q2:=fun o d os=>aG (w:=W8) (b:=dD As) ls0 o d os
    have hP2:=Lib.hid (fun d os=>hP'.out _ (OJ.trans ((dZ W8 d os).mono OJ.size)))
    have hV2:=Lib.hid (fun d os=>hV.out _ (OJ.trans ((dZ W8 d os).mono OJ.size)))
    by_cases hfu:free p s b<n*aC p.sizes g.toNat
    ·have hfin:=Lib.hid (LQ (n:=n) hc'.out hall.out hfu);go_wp2_with fail;refine aJ (by kernel_rfl) (by kernel_rfl) ?_
     repeat (go_big_quiet_step ((go_at_call 106;refine bD (VL _ _ _ p s b (hP2.out _ _) (hV2.out _ _) hsn.out hbb.out))))
     refine wpQuiet_nil ?_
     intro W3 hw';have hb3:=aI hw';clear hw';have h03:=ug.trans (hb3.mono ug.size);have hB3:=hb0.trans (h03.mono hb0.size);have aX:=hR.out _ h03;go_wp2_with (refine aK (.tmp 10) (.tmp 49) aP aP rfl aX rfl rfl (fun w9 aN dh=>?_))
     have aQ:=Below.bG hB3 dh;go_wp2_with fail;exact dn results51 aN rfl rfl (dF hfin.out aQ)
    ·have jbv:n*aC p.sizes g.toNat≤free p s b:=by omega
     go_wp2_with fail;refine aJ (by kernel_rfl) (by kernel_rfl) ?_
     repeat (go_big_quiet_step ((go_at_call 106;refine bD (VL _ _ _ p s b (hP2.out _ _) (hV2.out _ _) hsn.out hbb.out))))
     refine wpQuiet_nil ?_
     intro W3 hw';have hb3:=aI hw';clear hw';have h03:=ug.trans (hb3.mono ug.size);have hB3:=hb0.trans (h03.mono hb0.size);clear q0 q1 q2 hP2 hV2 hw1 rs0 os0 ls0;clear y0 y1 x0 x1 x2 x3 x4 x5 x6 aV aW;obtain ⟨⟨y0,y1⟩,x0,x1,x2,x3,x4,x5,x6,aV,aW⟩:=hK.out W3 (h03);obtain ⟨Ar,cr,YF,N8,Ux,hrow⟩:=(hN.out W3 hB3).row hbl;obtain ⟨YE,lr1,KP⟩:=hrow.at_.int hgl;obtain ⟨oi,li,ri⟩:=(hI.out W3 hB3).at_.int (i:=g.toNat) (by omega)
     have hcl:aC (rowAt s.on b.toNat) g.toNat=cell s.on b.toNat g.toNat:=rfl;rw [hcl] at KP
     clear hcl;have t1:=hsn.out.cell (b:=b.toNat) (g:=g.toNat) (by have:=hbb.out;omega) hgs
     have t2:=nN hsn.out b g;have t3:=hsn.out.inn.2 hgs;have hw1:IntKind.i64.wrap (cell s.on b.toNat g.toNat+coming s b g)=cell s.on b.toNat g.toNat+coming s b g:=bf _ (by omega)
     have hw2:IntKind.i64.wrap (cell s.on b.toNat g.toNat+coming s b g+n)=cell s.on b.toNat g.toNat+coming s b g+n:=bf _ (by omega)
     have hw3:IntKind.i64.wrap (aC s.inn g.toNat+n)=aC s.inn g.toNat+n:=bf _ (by omega)
     have q1:=fun o d os=>aG (w:=W3) (b:=w.heap.size+1) aV o d os
     have q2:=fun o d os=>aG (w:=W3) (b:=dD A0) N8 o d os
     have q3:=fun o d os=>aG (w:=W3) (b:=dD Ar) lr1 o d os
     have hV2:=Lib.hid (fun d os=>hV.out _ (hB3.trans ((dZ W3 d os).mono hB3.size)))
     have q4:=fun o d os=>aG (w:=W3) (b:=dD A4) li o d os
     by_cases hm:200<cell s.on b.toNat g.toNat+coming s b g+n
     ·have hfin:=Lib.hid (Aa (n:=n) hc'.out hall.out jbv (.inl hm));go_wp2_with fail;refine aJ (by kernel_rfl) (by kernel_rfl) ?_
      repeat (go_big_quiet_step ((go_at_call 107;refine bD (Fe _ _ p s b g (hV2.out _ _) hsn.out))))
      refine wpQuiet_nil ?_
      intro W4 hw';have hb4:=aI hw';clear hw';have h04:=h03.trans (hb4.mono h03.size);have hB4:=hb0.trans (h04.mono hb0.size);have aX:=hR.out _ h04;go_wp2_with (refine aK (.tmp 10) (.tmp 76) aP aP rfl aX rfl rfl (fun w9 aN dh=>?_))
      have aQ:=Below.bG hB4 dh;go_wp2_with fail;exact dn results51 aN rfl rfl (dF hfin.out aQ)
     ·have hm':cell s.on b.toNat g.toNat+coming s b g+n≤200:=by omega
      have hdec:=iU hm;clear hm;by_cases hi:1048576<aC s.inn g.toNat+n
      ·have hfin:=Lib.hid (Aa (n:=n) hc'.out hall.out jbv (.inr hi));go_wp2_with fail;refine aJ (by kernel_rfl) (by kernel_rfl) ?_
       repeat (go_big_quiet_step ((go_at_call 107;refine bD (Fe _ _ p s b g (hV2.out _ _) hsn.out))))
       refine wpQuiet_nil ?_
       intro W4 hw';have hb4:=aI hw';clear hw';have h04:=h03.trans (hb4.mono h03.size);have hB4:=hb0.trans (h04.mono hb0.size);have aX:=hR.out _ h04;go_wp2_with (refine aK (.tmp 10) (.tmp 76) aP aP rfl aX rfl rfl (fun w9 aN dh=>?_))
       have aQ:=Below.bG hB4 dh;go_wp2_with fail;exact dn results51 aN rfl rfl (dF hfin.out aQ)
      ·have hi':aC s.inn g.toNat+n≤1048576:=by omega
       clear hi;have hfin:=Lib.hid (Qy (n:=n) hc'.out hall.out jbv hm' hi');go_wp2_with fail;refine aJ (by kernel_rfl) (by kernel_rfl) ?_
       repeat (go_big_quiet_step ((go_at_call 107;refine bD (Fe _ _ p s b g (hV2.out _ _) hsn.out))))
       refine wpQuiet_nil ?_
       intro W4 hw';have hb4:=aI hw';clear hw';have h04:=h03.trans (hb4.mono h03.size);have hB4:=hb0.trans (h04.mono hb0.size);clear q1 q2 q3 q4 hV2 hw1 hw2;clear y0 y1 x0 x1 x2 x3 x4 x5 x6 aV aW;obtain ⟨⟨y0,y1⟩,x0,x1,x2,x3,x4,x5,x6,aV,aW⟩:=hK.out W4 (h04);clear Ux KP ri;go_wp2_with fail;clear y0 y1 x0 x1 x2 x3 x4 x5 x6 aV aW;refine (vS _ _ p s (hV.out _ hB4) hsn.out).mono ?_
       rintro e W5 ⟨_,rfl,⟨V5,rfl,qK⟩,h5⟩;have jc:=(qK).one;have nK:=pV (W5);go_wp2_with (refine aK (.tmp 13) (.tmp 78) aP V5 rfl nK rfl jc (fun w6 fH zO=>?_);refine aU ?_)
       unfold Hid;have jO:=jK zO;have lQ:=fH.lt;clear jc nK zO;have h06:=h04.trans ((h5.trans (jO.mono h5.size)).mono h04.size);have O7:=hb0.trans (h06.mono hb0.size);have jbt:w.heap.size≤W4.heap.size:=hB4.size;have Ze:W0.heap.size≤W4.heap.size:=h04.size;have ho6:=(qK.below jO).drew;have jgk:dN w6.drew W5.heap.size V5:=fH;have jrl:=h06.drew;have jrc:=O7.drew;obtain ⟨go,co,Ju,gr,cr2,cur,e1,f1,f2,f3,e2,f4,f5,f6⟩:=ho6.Jr hbl hgl;have hx0:w6.cell? ⟨W5.heap.size,0,none⟩=_:=fH.cells.1;rw [e1] at hx0
       have f3':w6.cell? ⟨go,b.toNat,none⟩=_:=f3;have f6':w6.cell? ⟨gr,g.toNat,none⟩=_:=f6;have hf:=f5.frozen g.toNat;have hst:=ho6.Yf hbl hgl e2 (cell s.on b.toNat g.toNat+n);have zQ:=jgk.off hst.2 f5 (by decide)
       have hw4:IntKind.i64.wrap (cell s.on b.toNat g.toNat+n)=cell s.on b.toNat g.toNat+n:=bf _ (by omega)
       have h07:=jrl.setCell (p:=⟨gr,g.toNat,none⟩) (bJ Ze f4) (.int .i64 (cell s.on b.toNat g.toNat+n));have hB7:=jrc.setCell (p:=⟨gr,g.toNat,none⟩) (bJ jbt f4) (.int .i64 (cell s.on b.toNat g.toNat+n));go_wp2_with fail;go_still_tail 17,(by kernel_rfl)
       change wpList _ _ _ _ _ w6.drew;refine lH rfl (.tmp 95) (.tmp 94) rfl rfl gr g.toNat _ _ rfl rfl f6 hf (fun w7 hw7=>?_)
       rw [hw7] at hst zQ h07 hB7
       clear hw7 hw4 hx0 hf f2 f3 f5 f6 f3' f6' e1 e2 ho6 fH jgk;refine gy ?_
       have zN:aO w7 W4.heap.size V5 {s with on:=setCell s.on b.toNat g.toNat (cell s.on b.toNat g.toNat+n)}:=hst.1
       have jf6:g.toNat<s.inn.length:=by omega
       have jkJ:=zN.drew;have jgj:dN w7.drew W5.heap.size V5:=zQ;obtain ⟨gi,ci,jrx,e3,k1,k2,k3⟩:=aO.qX (l:=s.inn) jkJ.inn jf6;have hx4:w7.cell? ⟨W5.heap.size,4,none⟩=_:=zQ.cells.2.2.2.2.1;rw [e3] at hx4
       have k3':w7.cell? ⟨gi,g.toNat,none⟩=_:=k3;have hfi:=k2.frozen g.toNat;have hst2:=jkJ.jeE jf6 e3 (aC s.inn g.toNat+n);have H9:=jgj.off hst2.2 k2 (by decide)
       have h09:=h07.drew.setCell (p:=⟨gi,g.toNat,none⟩) (bJ Ze k1) (.int .i64 (aC s.inn g.toNat+n));have hB9:=hB7.drew.setCell (p:=⟨gi,g.toNat,none⟩) (bJ jbt k1) (.int .i64 (aC s.inn g.toNat+n));go_wp2_with fail;go_still_tail 11,(by kernel_rfl)
       change wpList _ _ _ _ _ w7.drew;refine lH rfl (.tmp 106) (.tmp 105) rfl rfl gi g.toNat _ _ rfl rfl k3 hfi (fun w8 hw8=>?_)
       rw [hw8] at hst2 H9 h09 hB9
       clear hw8 hx4 hfi k2 k3 k3' e3;refine gy ?_
       have ho8:aO w8 W4.heap.size V5 {s with on:=setCell s.on b.toNat g.toNat (cell s.on b.toNat g.toNat+n),inn:=s.inn.set g.toNat (aC s.inn g.toNat+n)}:=hst2.1
       have jfR:=Lib.hid ho8;have jbD:=Lib.hid H9;clear hst hst2 zN jkJ ho8 zQ jgj H9 qK;have aX:=hR.out _ h09;obtain ⟨b0,b1,b2,b3,b4,b5,b6⟩:=dN.cells jbD.out;have eU:=aO.one jfR.out;go_wp2_with (refine aK (.tmp 10) (.tmp 107) aP V5 rfl aX rfl eU (fun w9 aN dh=>?_))
       have ng:=aO.keptBy jfR.out dh aX (by decide) (by decide) (by decide) (by decide) (by decide) (by decide)
       have aQ:=Below.bG hB9 dh;clear b0 b1 b2 b3 b4 b5 b6;go_wp2_with fail;exact dn results51 aN rfl rfl (wH hfin.out (ng.from_ jbt) aQ)
 ·have hne:(checkState p s!=0)=true:=by simpa using hc
  have hfin:=Lib.hid (NW (b:=b) (g:=g) (n:=n) hc);clear hc;have aX:=hR.out _ h1;go_wp2_with (refine aK (.tmp 10) (.tmp 19) aP aP rfl aX rfl rfl (fun w9 aN dh=>?_))
  have aQ:=Below.bG hB1 dh;go_wp2_with fail;exact dn results51 aN rfl rfl (dF hfin.out aQ)
end Wh
namespace Wh
open Go Go.RowKit Go.Shelf Go.Proofs Tryz
attribute [local go_sem] au dQ dI dX
theorem Xk {α:Type} {P:α→Bool} {l:List α} (d:α) {k:Nat} (hk:k<l.length) (h:P (l.getD k d)=true):l.any P=true:=by
 rw [uJ];refine ⟨l[k],eF hk,?_⟩
 simpa [jm,hk] using h
theorem any_none {α:Type} {P:α→Bool} {l:List α} (d:α) (h:∀ k,k<l.length→P (l.getD k d)=false):l.any P=false:=by
 rw [Em];intro x hx;obtain ⟨k,hk,rfl⟩:=cZ hx;have:=h k hk;simp [jm,hk] at this
 simp [this]
theorem jeU (w:World) (v vs vl:Value) (p:Plan) (s:State) (l:List Line) (hp:fZ w w.heap.size v p) (hv:fE w w.heap.size vs s) (hl:Sl eP w w.heap.size vl l):
  Calls prog 52 #[v,vs,vl] w (gU (enter p s l) w):=by
 have hL:=Lib.hid hl;obtain ⟨Al,cl,rfl,hll,hAl⟩:=hl;clear hAl;obtain ⟨Ab,cb,As,cs,rfl,hP',hBn,hSz,hlb,hls⟩:=kN hp;obtain ⟨A0,c0,A1,c1,A2,c2,A3,c3,A4,c4,A5,c5,A6,c6,rfl,hV,hN,hO,hH,hM,hI,hU,hX,hl0,hl1,hl2,hl3,hl4,hl5,CW⟩:=iG hv;go_enter func52,ntmps52
 go_wp2_with fail;obtain ⟨W0,hW0,hb0,hsz0,hsz1,hsE,hK,hR⟩:=oH w p s Ab cb As cs A0 c0 A1 c1 A2 c2 A3 c3 A4 c4 A5 c5 A6 c6;rw [hW0];clear hW0;obtain ⟨⟨y0,y1⟩,x0,x1,x2,x3,x4,x5,x6,aV,aW⟩:=hK.out W0 (aj W0.heap.size W0);go_wp2_with fail;clear y0 y1 x0 x1 x2 x3 x4 x5 x6 aV aW;refine (qw _ _ _ p s (hP'.out _ hb0) (hV.out _ hb0)).mono ?_
 rintro e W1 ⟨rfl,h1⟩;have hB1:=hb0.trans (h1.mono hb0.size);obtain ⟨⟨y0,y1⟩,x0,x1,x2,x3,x4,x5,x6,aV,aW⟩:=hK.out W1 (h1);by_cases hc:checkState p s=0
 ·have hc':=Lib.hid hc;have hsn:=Lib.hid (dV.1 hc).1;rw [hc];clear hc;have hcnt:=hsn.out.counts;by_cases OG:4≤s.orders.length
  ·have hfin:=Lib.hid (CB (l:=l) hc'.out (.inl (by omega)))
   have jfS:(4:Int)≤(s.orders.length:Int):=by omega
   clear OG;have aX:=hR.out _ h1;go_wp2_with (refine aK (.tmp 6) (.tmp 29) aP aP rfl aX rfl rfl (fun w9 aN dh=>?_))
   have aQ:=Below.bG hB1 dh;go_wp2_with fail;exact dn results52 aN rfl rfl (dF hfin.out aQ)
  have jqf:(s.orders.length:Int)<4:=by omega
  have ho:s.orders.length<4:=by omega
  clear OG;go_wp2_with fail;refine (iw l.length 1 3 _).mono ?_
  rintro e w' ⟨rfl,rfl⟩;cases hw:within l.length 1 3
  ·have hfin:=Lib.hid (CB (p:=p) (s:=s) (l:=l) hc'.out (.inr (by have:=gY.1 hw;omega)))
   clear hw;have aX:=hR.out _ h1;go_wp2_with (refine aK (.tmp 6) (.tmp 29) aP aP rfl aX rfl rfl (fun w9 aN dh=>?_))
   have aQ:=Below.bG hB1 dh;go_wp2_with fail;exact dn results52 aN rfl rfl (dF hfin.out aQ)
  have WE:1≤l.length∧l.length≤3:=by have:=within_iff.1 hw;omega
  clear hw;go_wp2_with fail;go_loopw [9] (fun i wr=>∃ k:Nat,k≤l.length∧i=.int .i64 k∧(∀ j,j<k→oK p (bH l j)=false)∧Below W0.heap.size W0 wr) (fun i _=>l.length - (intOf i).toNat)
  case atStart=>exact ⟨0,aT _,rfl,fun j hj=>by omega,h1⟩
  case round=>
   clear y0 y1 x0 x1 x2 x3 x4 x5 x6 aV aW;obtain ⟨k,hk,rfl,hall,hbw⟩:=hrel;have hall':=Lib.hid hall;have hB:=hb0.trans (hbw.mono hb0.size);clear hall hB1 h1;obtain ⟨⟨y0,y1⟩,x0,x1,x2,x3,x4,x5,x6,aV,aW⟩:=hK.out wr (hbw);by_cases hlt:k<l.length
   ·obtain ⟨hok2,Jt,e0,e1,e2,e3⟩:=(hL.out.grow hB).at_.line hlt;have hlt':(k:Int)<(l.length:Int):=by omega
    have q0:=fun o d os=>aG (w:=wr) (b:=w.heap.size) aW o d os
    have q1:=fun o d os=>aG (w:=wr) (b:=dD Al) Jt o d os
    have hP2:=Lib.hid (fun d os=>hP'.out _ (hB.trans ((dZ wr d os).mono hB.size)))
    cases hg:bU p (bH l k).good
    ·have hbad:oK p (bH l k)=true:=by unfold oK;rw [hg];rfl
     have hfin:=Lib.hid (Ir hc'.out ho WE (Xk dLine hlt hbad));have hrg:∀ W:World,fZ W W.heap.size (.agg #[.slice Ab p.aH.length cb,.slice As p.sizes.length cs]) p→Calls prog 69 #[.agg #[.slice Ab p.aH.length cb,.slice As p.sizes.length cs],.int .i64 (bH l k).good] W fun e w'=>e=.returned (.bool false)∧Below W.heap.size W w':=fun W hW=>by
      have:=uV W _ p (bH l k).good hW (by omega)
      rwa [hg] at this
     have jbl:=Lib.hid hrg;clear hg hbad hrg;go_wp2_with fail;refine aJ (by kernel_rfl) (by kernel_rfl) ?_
     repeat (go_big_quiet_step ((go_at_call 69;refine bD (jbl.out _ (hP2.out _ _)))))
     refine wpQuiet_nil ?_
     intro W2 hw';have hb2:=aI hw';clear hw';have h02:=hbw.trans (hb2.mono hbw.size);have hB2:=hb0.trans (h02.mono hb0.size);clear q0 q1;have aX:=hR.out _ h02;go_wp2_with (refine aK (.tmp 6) (.tmp 53) aP aP rfl aX rfl rfl (fun w9 aN dh=>?_))
     have aQ:=Below.bG hB2 dh;go_wp2_with fail;exact dn results52 aN rfl rfl (dF hfin.out aQ)
    ·have hrg:∀ W:World,fZ W W.heap.size (.agg #[.slice Ab p.aH.length cb,.slice As p.sizes.length cs]) p→Calls prog 69 #[.agg #[.slice Ab p.aH.length cb,.slice As p.sizes.length cs],.int .i64 (bH l k).good] W fun e w'=>e=.returned (.bool true)∧Below W.heap.size W w':=fun W hW=>by
      have:=uV W _ p (bH l k).good hW (by omega)
      rwa [hg] at this
     have jbl:=Lib.hid hrg;clear hrg;cases hw:within (bH l k).want 1 200
     ·have hbad:oK p (bH l k)=true:=by unfold oK;rw [hg,hw];rfl
      have hfin:=Lib.hid (Ir hc'.out ho WE (Xk dLine hlt hbad));have hrw:∀ W:World,Calls prog 38 #[.int .i64 (bH l k).want,.int .i64 1,.int .i64 200] W fun e w'=>e=.returned (.bool false)∧W=w':=fun W=>by
       have:=iw (bH l k).want 1 200 W;rwa [hw] at this
      have jkC:=Lib.hid hrw;clear hg hw hbad hrw;go_wp2_with fail;refine aJ (by kernel_rfl) (by kernel_rfl) ?_
      repeat (go_big_quiet_step (first|(go_at_call 69;refine bD (jbl.out _ (hP2.out _ _)))|(go_at_call 38;refine sV (jkC.out _))))
      refine wpQuiet_nil ?_
      intro W2 hw';have hb2:=aI hw';clear hw';have h02:=hbw.trans (hb2.mono hbw.size);have hB2:=hb0.trans (h02.mono hb0.size);clear q0 q1;have aX:=hR.out _ h02;go_wp2_with (refine aK (.tmp 6) (.tmp 53) aP aP rfl aX rfl rfl (fun w9 aN dh=>?_))
      have aQ:=Below.bG hB2 dh;go_wp2_with fail;exact dn results52 aN rfl rfl (dF hfin.out aQ)
     ·have hok:oK p (bH l k)=false:=by unfold oK;rw [hg,hw];rfl
      have hok':=Lib.hid hok;have hrw:∀ W:World,Calls prog 38 #[.int .i64 (bH l k).want,.int .i64 1,.int .i64 200] W fun e w'=>e=.returned (.bool true)∧W=w':=fun W=>by
       have:=iw (bH l k).want 1 200 W;rwa [hw] at this
      have jkC:=Lib.hid hrw;clear hg hw hok hrw;go_wp2_with fail;refine aJ (by kernel_rfl) (by kernel_rfl) ?_
      repeat (go_big_quiet_step (first|(go_at_call 69;refine bD (jbl.out _ (hP2.out _ _)))|(go_at_call 38;refine sV (jkC.out _))))
      refine wpQuiet_nil ?_
      intro W2 hw';have hb2:=aI hw';clear hw';have h02:=hbw.trans (hb2.mono hbw.size);clear q0 q1;go_wp2_with fail;go_roundw
      case rel=>
       refine ⟨k+1,by omega,by go_num,fun j hj=>?_,h02⟩
       rcases dB.1 hj with h|rfl
       ·exact hall'.out j h
       ·exact hok'.out
      case measure=>simp [intOf];omega
   ·obtain rfl:k=l.length:=by omega
    have hnb:=Lib.hid (any_none dLine hall'.out);clear hall';go_wp2_with fail;go_loopw [10] (fun i wr=>∃ k:Nat,k≤l.length∧i=.int .i64 k∧(∀ j,j<k→DN (bH l j)=false)∧Below W0.heap.size W0 wr) (fun i _=>l.length - (intOf i).toNat)
    case atStart=>exact ⟨0,aT _,rfl,fun j hj=>by omega,hbw⟩
    case round=>
     clear y0 y1 x0 x1 x2 x3 x4 x5 x6 aV aW;clear hbw hB;obtain ⟨k,hk,rfl,hall,hbw⟩:=hrel;have hall':=Lib.hid hall;have hB:=hb0.trans (hbw.mono hb0.size);clear hall;obtain ⟨⟨y0,y1⟩,x0,x1,x2,x3,x4,x5,x6,aV,aW⟩:=hK.out wr (hbw);by_cases hlt:k<l.length
     ·obtain ⟨hok2,Jt,e0,e1,e2,e3⟩:=(hL.out.grow hB).at_.line hlt;have hlt':(k:Int)<(l.length:Int):=by omega
      rcases LX (bH l k) with ⟨g1,hf⟩|⟨g1,g2,hf⟩|⟨g1,g2,hf⟩
      ·have hfin:=Lib.hid (KH hc'.out ho WE hnb.out (Xk dLine hlt hf));clear hf;have aX:=hR.out _ hbw;go_wp2_with (refine aK (.tmp 6) (.tmp 74) aP aP rfl aX rfl rfl (fun w9 aN dh=>?_))
       have aQ:=Below.bG hB dh;go_wp2_with fail;exact dn results52 aN rfl rfl (dF hfin.out aQ)
      ·have hfin:=Lib.hid (KH hc'.out ho WE hnb.out (Xk dLine hlt hf));clear hf;have aX:=hR.out _ hbw;go_wp2_with (refine aK (.tmp 6) (.tmp 74) aP aP rfl aX rfl rfl (fun w9 aN dh=>?_))
       have aQ:=Below.bG hB dh;go_wp2_with fail;exact dn results52 aN rfl rfl (dF hfin.out aQ)
      ·have hf':=Lib.hid hf;clear hf;go_wp2_with fail;go_roundw
       case rel=>
        refine ⟨k+1,by omega,by go_num,fun j hj=>?_,hbw⟩
        rcases dB.1 hj with h|rfl
        ·exact hall'.out j h
        ·exact hf'.out
       case measure=>simp [intOf];omega
     ·obtain rfl:k=l.length:=by omega
      have hnn:=any_none dLine hall'.out;have hfin:=Lib.hid (ZK hc'.out ho WE hnb.out hnn);clear hnn hall';go_wp2_with fail;clear y0 y1 x0 x1 x2 x3 x4 x5 x6 aV aW;refine (vS _ _ p s (hV.out _ hB) hsn.out).mono ?_
      rintro e W5 ⟨_,rfl,⟨V5,rfl,qK⟩,h5⟩;have jc:=(qK).one;have nK:=pV (W5);go_wp2_with (refine aK (.tmp 11) (.tmp 76) aP V5 rfl nK rfl jc (fun w6 fH zO=>?_);refine aU ?_)
      unfold Hid;have jO:=jK zO;have lQ:=fH.lt;clear jc nK zO;have hx6:=Lib.hid (Bx.of fH (qK.below jO));have h06:=hbw.trans ((h5.trans (jO.mono h5.size)).mono hbw.size);have O7:=hb0.trans (h06.mono hb0.size);have hle3:w.heap.size≤wr.heap.size:=hB.size;have jn0:W0.heap.size≤wr.heap.size:=hbw.size;have qp:wr.heap.size≤W5.heap.size:=h5.size;have jqo:W5.heap.size<w6.heap.size:=lQ;clear fH qK jO h5 lQ;go_wp2_with fail;refine lT 7 [fun gq _=>gq 77=.pointer (some ⟨W5.heap.size,1,none⟩),fun gq _=>gq 78=V5.orders,fun gq w'=>(fun v w'=>∃ b,v=.slice (some ⟨b,0,none⟩) 0 0∧w6.heap.size≤b∧dw w' b 44 []) (gq 79) w',fun gq _=>gq 80=.slice Al l.length cl,fun gq w'=>(fun v w'=>Own eP 4 44 w' w6.heap.size v l) (gq 81) w',fun gq w'=>(fun v w'=>∃ u,v=.agg #[.int .i64 0,u]∧Own eP 4 44 w' w6.heap.size u l) (gq 82) w',fun gq w'=>(fun v w'=>∃ bb u,v=.slice (some ⟨bb,0,none⟩) 1 1∧w'.cell? ⟨bb,0,none⟩=some (.int .i64 0)∧w'.cell? ⟨bb,1,none⟩=some u∧bb<w'.heap.size∧Own eP 4 44 w' w6.heap.size u l) (gq 83) w'] (by kernel_rfl) (by kernel_rfl) rfl (by kernel_rfl) ?_ (fun f w2 hb2 hR=>?_)
      simp only [eY,eG];refine bg.cons (dU.val rfl rfl (fun gq w' hb ho hd=>?_)) ?_
      ·have e11:=ho 11 rfl;go_simp
      refine bg.cons (dU.val rfl rfl (fun gq w' hb ho hd=>?_)) ?_
      ·have e77:gq 77=.pointer (some ⟨W5.heap.size,1,none⟩):=hd ⟨0,.data⟩ (by simp) rfl (by decide)
       have x1:=(hx6.out.below hb).cells.2.1;go_simp
      refine bg.cons (dU.one (d:=79) (p:=(fun v w'=>∃ b,v=.slice (some ⟨b,0,none⟩) 0 0∧w6.heap.size≤b∧dw w' b 44 [])) rfl rfl (fun v w1 w2 h hb=>let ⟨b,h1,h2,h3⟩:=h;⟨b,h1,h2,h3.below hb h3.lt⟩) (fun gq w' hb ho hd=>?_)) ?_
      ·unfold dO;go_simp
       exact ⟨⟨hb.size,dw.new _ _ _⟩,(aj _ _).alloc (aA _) _⟩
      refine bg.cons (dU.val rfl rfl (fun gq w' hb ho hd=>?_)) ?_
      ·have e2:=ho 2 rfl;go_simp
      refine bg.cons (dU.one (d:=81) (p:=(fun v w'=>Own eP 4 44 w' w6.heap.size v l)) rfl rfl (fun v w1 w2 h hb=>h.below hb) (fun gq w' hb ho hd=>?_)) ?_
      ·have e79:∃ b,(gq 79)=.slice (some ⟨b,0,none⟩) 0 0∧w6.heap.size≤b∧dw w' b 44 []:=hd ⟨2,.data⟩ (by simp) rfl (by decide)
       have e80:gq 80=.slice Al l.length cl:=hd ⟨3,.data⟩ (by simp) rfl (by decide)
       obtain ⟨bb,e3,jgw,hblk⟩:=e79;have hAt:=(hL.out.grow (O7.trans (hb.mono O7.size))).at_;obtain ⟨u,w3,hr,hb3,h0,h⟩:=lI (P:=prog) w' 32 32 44 _ 4 32 underlying32 Me rfl (by decide) (by decide) bb hblk l Al cl w'.heap.size (fun _=>rfl) hAt (by omega)
       unfold dO;simp only [execOp,resolve,invoke,builtin,dQ,e80,e3,lW,nC,nX,rO,dP,nH,hr];exact ⟨(h (by omega)).from_ hb.size,hb3⟩
      refine bg.cons (dU.one (d:=82) (p:=(fun v w'=>∃ u,v=.agg #[.int .i64 0,u]∧Own eP 4 44 w' w6.heap.size u l)) rfl rfl (fun v w1 w2 h hb=>let ⟨u,h1,h2⟩:=h;⟨u,h1,h2.below hb⟩) (fun gq w' hb ho hd=>?_)) ?_
      ·have e81:Own eP 4 44 w' w6.heap.size (gq 81) l:=hd ⟨4,.data⟩ (by simp) rfl (by decide)
       obtain ⟨E,kc,s30⟩:=e81.isSlice;rw [s30] at e81
       have e':=Lib.hid e81;clear e81;unfold dO;go_simp
       exact ⟨e'.out,aj _ _⟩
      refine bg.cons (dU.one (d:=83) (p:=(fun v w'=>∃ bb u,v=.slice (some ⟨bb,0,none⟩) 1 1∧w'.cell? ⟨bb,0,none⟩=some (.int .i64 0)∧w'.cell? ⟨bb,1,none⟩=some u∧bb<w'.heap.size∧Own eP 4 44 w' w6.heap.size u l)) rfl rfl (fun v w1 w2 h hb=>let ⟨bb,u,h1,h2,h2',h3,h4⟩:=h;⟨bb,u,h1,(hb.cell (p:=⟨bb,0,none⟩) h3).trans h2,(hb.cell (p:=⟨bb,1,none⟩) h3).trans h2',aZ h3 hb.size,h4.below hb⟩) (fun gq w' hb ho hd=>?_)) ?_
      ·have e82:∃ u,(gq 82)=.agg #[.int .i64 0,u]∧Own eP 4 44 w' w6.heap.size u l:=hd ⟨5,.data⟩ (by simp) rfl (by decide)
       obtain ⟨u,e82,hu⟩:=e82;obtain ⟨E,kc,s30⟩:=hu.isSlice;rw [s30] at e82 hu
       have e':=Lib.hid hu;clear hu;unfold dO;go_simp
       exact ⟨e'.out.alloc _,(aj _ _).alloc (aA _) _⟩
      exact bg.nil;obtain ⟨r77,r78,r79,r80,r81,r82,r83,_⟩:=hR;replace r79:∃ b,(f 79)=.slice (some ⟨b,0,none⟩) 0 0∧w6.heap.size≤b∧dw w2 b 44 []:=r79;replace r81:Own eP 4 44 w2 w6.heap.size (f 81) l:=r81;replace r82:∃ u,(f 82)=.agg #[.int .i64 0,u]∧Own eP 4 44 w2 w6.heap.size u l:=r82;replace r83:∃ bb u,(f 83)=.slice (some ⟨bb,0,none⟩) 1 1∧w2.cell? ⟨bb,0,none⟩=some (.int .i64 0)∧w2.cell? ⟨bb,1,none⟩=some u∧bb<w2.heap.size∧Own eP 4 44 w2 w6.heap.size u l:=r83;simp only [fU,qZ,eY,eG,lF,mG,mF,mD,jH,mg,iW,iy,iJ,r77,r78,r80];clear r77 r78 r80;obtain ⟨bb,u,r4,d0,d1,l4,o4⟩:=r83;simp only [r4];clear r4 r81 r82;obtain ⟨E,kc,rfl⟩:=o4.isSlice;have hx2:=hx6.out.below hb2;have OG:=kV hx2.own.llen;refine gK _ rfl (.tmp 78) (.tmp 83) 27 42 rfl wr.heap.size _ 2 32 underlying27 Jg rfl (by decide) (by decide) V5.orders (pU s.orders V5.lines) (0,.slice E l.length kc) rfl hx2.own.orders ⟨bb,0,none⟩ 1 rfl rfl (fun j x hj=>by
       rw [jq,iV];match j,hj with
       |0,hj=>exact d0.trans hj
       |1,hj=>exact d1.trans hj
       |j+2,hj=>simp [Gh] at hj) (VY _ rfl) (by omega) (by have:=hb2.size;omega) ?_
      intro v7 w7 qy O5 Rw zB;obtain ⟨hk7,zN⟩:=hx6.out.Ew hb2 (x:=⟨0,l⟩) (o4.from_ (by omega)) (fun g hg=>(o4.size g hg).1) O5 qy
      obtain ⟨Av,cv,hv7⟩:=qy.isSlice;simp only [dK,gQ,je,iV] at hv7
      have h07:=h06.trans ((hb2.mono h06.size).trans (zB.mono (by omega)))
      have hT7:=hx2.ty;rw [hv7] at zN
      rw [hv7];have WC:=Lib.hid zN;have jf3:=Lib.hid hk7;clear qy O5 Rw hv7 d0 d1 l4 o4 hx2 OG hk7 zN;go_wp2_with (refine Jw rfl (.tmp 85) (.tmp 84) rfl rfl Av _ cv jf3.out WC.out hT7 rfl rfl rfl (fun w8 EF qJ=>?_);refine aU ?_)
      unfold Hid;have jdF:=h07.size;have ug:=h07.trans (qJ.below (B:=W0.heap.size) (fun k hk=>by omega) jdF)
      have OJ:=hb0.trans (ug.mono hb0.size);obtain ⟨V8,EF⟩:∃ V8,Bx w8 wr.heap.size W5.heap.size 31 [] V8 {s with orders:=s.orders++[⟨0,l⟩]}:=⟨_,EF⟩
      have lN:=Lib.hid EF;clear WC jf3 EF qJ jdF;have aX:=hR.out _ ug;obtain ⟨b0,b1,b2,b3,b4,b5,b6⟩:=dN.cells lN.out.kW;have eU:=aO.one lN.out.own;go_wp2_with (refine aK (.tmp 6) (.tmp 86) aP V8 rfl aX rfl eU (fun w9 aN dh=>?_))
      have ng:=aO.keptBy lN.out.own dh aX (by decide) (by decide) (by decide) (by decide) (by decide) (by decide)
      have aQ:=Below.bG OJ dh;clear b0 b1 b2 b3 b4 b5 b6;go_wp2_with fail;exact dn results52 aN rfl rfl (wH hfin.out (ng.from_ hle3) aQ)
 ·have hne:(checkState p s!=0)=true:=by simpa using hc
  have hfin:=Lib.hid (U8 (l:=l) hc);clear hc;have aX:=hR.out _ h1;go_wp2_with (refine aK (.tmp 6) (.tmp 17) aP aP rfl aX rfl rfl (fun w9 aN dh=>?_))
  have aQ:=Below.bG hB1 dh;go_wp2_with fail;exact dn results52 aN rfl rfl (dF hfin.out aQ)
end Wh
