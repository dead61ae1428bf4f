/- Texts of the claim, joined. -/
import Derived.StillTailTactics
import Derived.Test.YtfhfkijmebhgmaaGreatQ33
set_option maxHeartbeats 20000000
set_option maxRecDepth 100000
namespace Wh
open Go Go.RowKit Go.Shelf Go.Proofs Tryz
attribute [local go_sem] aT jW jm kC
theorem Zg(w:World)(p:dA)(s:aJ)(Ab:Option Addr)(cb:Nat)(As:Option Addr)(cs:Nat)(A0:Option Addr)(c0:Nat)(A1:Option Addr)(c1:Nat)(A2:Option Addr)(c2:Nat)(A3:Option Addr)(c3:Nat)(A4:Option Addr)(c4:Nat)(A5:Option Addr)(c5:Nat)(A6:Option Addr)(c6:Nat)(kd xa xb xc xn:Int)(Al:Option Addr)(ln cl:Nat):
  ∃W0:World,((w.alloc (.cells #[.slice Ab p.bQ.length cb,.slice As p.aP.length cs] 25)).alloc (.cells #[.slice A0 s.on.length c0,.slice A1 s.ak.length c1,.slice A2 s.aA.length c2,.slice A3 s.aF.length c3,.slice A4 s.gY.length c4,.slice A5 s.O.length c5,.slice A6 s.bg.length c6] 31)).alloc (.cells #[.int .i64 kd,.int .i64 xa,.int .i64 xb,.int .i64 xc,.int .i64 xn,.slice Al ln cl] 34)=W0/\Below w.heap.size w W0/\Hid (W0.heap.size=w.heap.size+1+1+1)/\
   Hid (∀W,Below W0.heap.size W0 W->(W.cell? ⟨w.heap.size,0,none⟩=some (.slice Ab p.bQ.length cb)/\W.cell? ⟨w.heap.size,1,none⟩=some (.slice As p.aP.length cs))/\W.cell? ⟨w.heap.size+1,0,none⟩=some (.slice A0 s.on.length c0)/\W.cell? ⟨w.heap.size+1,1,none⟩=some (.slice A1 s.ak.length c1)/\W.cell? ⟨w.heap.size+1,2,none⟩=some (.slice A2 s.aA.length c2)/\W.cell? ⟨w.heap.size+1,3,none⟩=some (.slice A3 s.aF.length c3)/\W.cell? ⟨w.heap.size+1,4,none⟩=some (.slice A4 s.gY.length c4)/\W.cell? ⟨w.heap.size+1,5,none⟩=some (.slice A5 s.O.length c5)/\W.cell? ⟨w.heap.size+1,6,none⟩=some (.slice A6 s.bg.length c6)/\w.heap.size+1<W.heap.size/\w.heap.size<W.heap.size)/\
   Hid (∀W,Below W0.heap.size W0 W->W.cell? ⟨w.heap.size+1+1,0,none⟩=some (.int .i64 kd)/\W.cell? ⟨w.heap.size+1+1,1,none⟩=some (.int .i64 xa)/\W.cell? ⟨w.heap.size+1+1,2,none⟩=some (.int .i64 xb)/\W.cell? ⟨w.heap.size+1+1,3,none⟩=some (.int .i64 xc)/\W.cell? ⟨w.heap.size+1+1,4,none⟩=some (.int .i64 xn)/\W.cell? ⟨w.heap.size+1+1,5,none⟩=some (.slice Al ln cl)/\w.heap.size+1+1<W.heap.size):=by
 obtain⟨W1,e1,b1,s1,s2,s3,hK⟩:=Eh w p s Ab cb As cs A0 c0 A1 c1 A2 c2 A3 c3 A4 c4 A5 c5 A6 c6;rw[e1];have e3:W1.heap.size=w.heap.size+1+1:=s3;have ha:Below W1.heap.size W1 (W1.alloc (.cells #[.int .i64 kd,.int .i64 xa,.int .i64 xb,.int .i64 xc,.int .i64 xn,.slice Al ln cl] 34)):=(aj _ _).alloc (au _) _;have h1:iV (W1.alloc (.cells #[.int .i64 kd,.int .i64 xa,.int .i64 xb,.int .i64 xc,.int .i64 xn,.slice Al ln cl] 34)) W1.heap.size 34 [.int .i64 kd,.int .i64 xa,.int .i64 xb,.int .i64 xc,.int .i64 xn,.slice Al ln cl]:=iV.new _ _ _;rw[e3]at h1
 refine⟨_,rfl,b1.trans (ha.mono b1.size),ah (by simp[e3]),ah λW hW=>uU hK W (ha.trans (hW.mono ha.size)),ah λW hW=>?_⟩
 have k:=h1.below hW (by simp;omega)
 exact⟨k.cell rfl,k.cell rfl,k.cell rfl,k.cell rfl,k.cell rfl,k.cell rfl,k.lt⟩
theorem yG(w:World)(p:dA)(s:aJ)(Ab:Option Addr)(cb:Nat)(As:Option Addr)(cs:Nat)(A0:Option Addr)(c0:Nat)(A1:Option Addr)(c1:Nat)(A2:Option Addr)(c2:Nat)(A3:Option Addr)(c3:Nat)(A4:Option Addr)(c4:Nat)(A5:Option Addr)(c5:Nat)(A6:Option Addr)(c6:Nat)(kd xa xb xc xn:Int)(Al:Option Addr)(ln cl:Nat):
  ∃W0:World,(((w.alloc (.cells #[.slice Ab p.bQ.length cb,.slice As p.aP.length cs] 25)).alloc (.cells #[.slice A0 s.on.length c0,.slice A1 s.ak.length c1,.slice A2 s.aA.length c2,.slice A3 s.aF.length c3,.slice A4 s.gY.length c4,.slice A5 s.O.length c5,.slice A6 s.bg.length c6] 31)).alloc (.cells #[.int .i64 kd,.int .i64 xa,.int .i64 xb,.int .i64 xc,.int .i64 xn,.slice Al ln cl] 34)).alloc (.cells #[.slice none 0 0,.slice none 0 0,.slice none 0 0,.slice none 0 0,.slice none 0 0,.slice none 0 0,.slice none 0 0] 31)=W0/\Below w.heap.size w W0/\Hid (W0.heap.size=w.heap.size+1+1+1+1)/\
   Hid (∀W,Below W0.heap.size W0 W->(W.cell? ⟨w.heap.size,0,none⟩=some (.slice Ab p.bQ.length cb)/\W.cell? ⟨w.heap.size,1,none⟩=some (.slice As p.aP.length cs))/\W.cell? ⟨w.heap.size+1,0,none⟩=some (.slice A0 s.on.length c0)/\W.cell? ⟨w.heap.size+1,1,none⟩=some (.slice A1 s.ak.length c1)/\W.cell? ⟨w.heap.size+1,2,none⟩=some (.slice A2 s.aA.length c2)/\W.cell? ⟨w.heap.size+1,3,none⟩=some (.slice A3 s.aF.length c3)/\W.cell? ⟨w.heap.size+1,4,none⟩=some (.slice A4 s.gY.length c4)/\W.cell? ⟨w.heap.size+1,5,none⟩=some (.slice A5 s.O.length c5)/\W.cell? ⟨w.heap.size+1,6,none⟩=some (.slice A6 s.bg.length c6)/\w.heap.size+1<W.heap.size/\w.heap.size<W.heap.size)/\
   Hid (∀W,Below W0.heap.size W0 W->W.cell? ⟨w.heap.size+1+1,0,none⟩=some (.int .i64 kd)/\W.cell? ⟨w.heap.size+1+1,1,none⟩=some (.int .i64 xa)/\W.cell? ⟨w.heap.size+1+1,2,none⟩=some (.int .i64 xb)/\W.cell? ⟨w.heap.size+1+1,3,none⟩=some (.int .i64 xc)/\W.cell? ⟨w.heap.size+1+1,4,none⟩=some (.int .i64 xn)/\W.cell? ⟨w.heap.size+1+1,5,none⟩=some (.slice Al ln cl)/\w.heap.size+1+1<W.heap.size)/\Hid (∀W,Below W0.heap.size W0 W->jk W (w.heap.size+1+1+1) dH):=by
 obtain⟨W1,e1,b1,s3,hK,hD⟩:=Zg w p s Ab cb As cs A0 c0 A1 c1 A2 c2 A3 c3 A4 c4 A5 c5 A6 c6 kd xa xb xc xn Al ln cl;rw[e1];have e3:W1.heap.size=w.heap.size+1+1+1:=s3;have ha:Below W1.heap.size W1 (W1.alloc (.cells #[.slice none 0 0,.slice none 0 0,.slice none 0 0,.slice none 0 0,.slice none 0 0,.slice none 0 0,.slice none 0 0] 31)):=(aj _ _).alloc (au _) _;have h1:iV (W1.alloc (.cells #[.slice none 0 0,.slice none 0 0,.slice none 0 0,.slice none 0 0,.slice none 0 0,.slice none 0 0,.slice none 0 0] 31)) W1.heap.size 31 [.slice none 0 0,.slice none 0 0,.slice none 0 0,.slice none 0 0,.slice none 0 0,.slice none 0 0,.slice none 0 0]:=iV.new _ _ _;rw[e3]at h1
 exact⟨_,rfl,b1.trans (ha.mono b1.size),ah (by simp[e3]),ah λW hW=>uU hK W (ha.trans (hW.mono ha.size)),ah λW hW=>uU hD W (ha.trans (hW.mono ha.size)),ah λW hW=>h1.below hW (by simp;omega)⟩
theorem jm2(w:World)(v vs vd:Value)(p:dA)(s:aJ)(x:yK)(hp:mW w w.heap.size v p)(hv:lK w w.heap.size vs s)(hd:Ur w w.heap.size vd x):
  Calls prog 17 #[v,vs,vd] w (nN (act p s x) w):=by
 obtain⟨Ab,cb,As,cs,rfl,hP',hBn,hSz,hlb,hls⟩:=sN hp;obtain⟨A0,c0,A1,c1,A2,c2,A3,c3,A4,c4,A5,c5,A6,c6,rfl,hV,hN,hO,hH,hM,hI,hU,hX,hl0,hl1,hl2,hl3,hl4,hl5,JA⟩:=oW hv;obtain⟨Al,cl,rfl,hDV,hLn,hll⟩:=Rf hd;obtain⟨kd,xa,xb,xc,xn,l⟩:=x;simp only at hDV hLn hll ⊢
 clear hd hp hv;by_cases k1:kd=1
 ·rw[show act p s ⟨kd,xa,xb,xc,xn,l⟩=rF p s xa xb xn by rw[k1];rfl]
  have q1:(kd==1)=true:=by simpa using k1
  clear k1;go_enter func17,ntmps17
  go_wp2_with fail;obtain⟨W0,hW0,hb0,hsE,hK,hD,hR⟩:=yG w p s Ab cb As cs A0 c0 A1 c1 A2 c2 A3 c3 A4 c4 A5 c5 A6 c6 kd xa xb xc xn Al l.length cl;rw[hW0];clear hW0;refine(ja9 _ _ _ p s xa xb xn (hP'.O _ hb0) (hV.O _ hb0)).mono ?_
  rintro e W1 ⟨V1,rfl,ho1,hb1⟩;have fH:=hR.O _ hb1;have lG:=dK.one ho1;go_wp2_with (refine dB (.tmp 6) (.tmp 21) dH V1 rfl fH rfl lG (λw9 dM je=>?_))
  have wC:=dK.keptBy ho1 je fH (by decide) (by decide) (by decide) (by decide) (by decide) (by decide)
  have hB1:=hb0.trans (hb1.mono hb0.size);have hle:=hb0.size;have dN:=Below.gB hB1 je;go_wp2_with fail;exact jo results17 dM rfl rfl (show nN (rF p s xa xb xn) w _ w9 from⟨V1,rfl,wC.from_ hle,dN⟩)
 have q1:(kd==1)=false:=by simpa using k1
 by_cases k2:kd=2
 ·rw[show act p s ⟨kd,xa,xb,xc,xn,l⟩=enter p s l by rw[k2];rfl]
  have q2:(kd==2)=true:=by simpa using k2
  clear k1 k2;go_enter func17,ntmps17
  go_wp2_with fail;obtain⟨W0,hW0,hb0,hsE,hK,hD,hR⟩:=yG w p s Ab cb As cs A0 c0 A1 c1 A2 c2 A3 c3 A4 c4 A5 c5 A6 c6 kd xa xb xc xn Al l.length cl;rw[hW0];clear hW0;refine(jfM _ _ _ _ p s l (hP'.O _ hb0) (hV.O _ hb0) (hLn.O _ hb0)).mono ?_
  rintro e W1 ⟨V1,rfl,ho1,hb1⟩;have fH:=hR.O _ hb1;have lG:=dK.one ho1;go_wp2_with (refine dB (.tmp 6) (.tmp 30) dH V1 rfl fH rfl lG (λw9 dM je=>?_))
  have wC:=dK.keptBy ho1 je fH (by decide) (by decide) (by decide) (by decide) (by decide) (by decide)
  have hB1:=hb0.trans (hb1.mono hb0.size);have hle:=hb0.size;have dN:=Below.gB hB1 je;go_wp2_with fail;exact jo results17 dM rfl rfl (show nN (enter p s l) w _ w9 from⟨V1,rfl,wC.from_ hle,dN⟩)
 have q2:(kd==2)=false:=by simpa using k2
 by_cases k3:kd=3
 ·rw[show act p s ⟨kd,xa,xb,xc,xn,l⟩=zq p s by rw[k3];rfl]
  have q3:(kd==3)=true:=by simpa using k3
  clear k1 k2 k3;go_enter func17,ntmps17
  go_wp2_with fail;obtain⟨W0,hW0,hb0,hsE,hK,hD,hR⟩:=yG w p s Ab cb As cs A0 c0 A1 c1 A2 c2 A3 c3 A4 c4 A5 c5 A6 c6 kd xa xb xc xn Al l.length cl;rw[hW0];clear hW0;refine(jfz _ _ _ p s (hP'.O _ hb0) (hV.O _ hb0)).mono ?_
  rintro e W1 ⟨V1,rfl,ho1,hb1⟩;have fH:=hR.O _ hb1;have lG:=dK.one ho1;go_wp2_with (refine dB (.tmp 6) (.tmp 37) dH V1 rfl fH rfl lG (λw9 dM je=>?_))
  have wC:=dK.keptBy ho1 je fH (by decide) (by decide) (by decide) (by decide) (by decide) (by decide)
  have hB1:=hb0.trans (hb1.mono hb0.size);have hle:=hb0.size;have dN:=Below.gB hB1 je;go_wp2_with fail;exact jo results17 dM rfl rfl (show nN (zq p s) w _ w9 from⟨V1,rfl,wC.from_ hle,dN⟩)
 have q3:(kd==3)=false:=by simpa using k3
 by_cases k4:kd=4
 ·rw[show act p s ⟨kd,xa,xb,xc,xn,l⟩=zJ p s xa by rw[k4];rfl]
  have q4:(kd==4)=true:=by simpa using k4
  clear k1 k2 k3 k4;go_enter func17,ntmps17
  go_wp2_with fail;obtain⟨W0,hW0,hb0,hsE,hK,hD,hR⟩:=yG w p s Ab cb As cs A0 c0 A1 c1 A2 c2 A3 c3 A4 c4 A5 c5 A6 c6 kd xa xb xc xn Al l.length cl;rw[hW0];clear hW0;refine(jgO _ _ _ p s xa (hP'.O _ hb0) (hV.O _ hb0)).mono ?_
  rintro e W1 ⟨V1,rfl,ho1,hb1⟩;have fH:=hR.O _ hb1;have lG:=dK.one ho1;go_wp2_with (refine dB (.tmp 6) (.tmp 46) dH V1 rfl fH rfl lG (λw9 dM je=>?_))
  have wC:=dK.keptBy ho1 je fH (by decide) (by decide) (by decide) (by decide) (by decide) (by decide)
  have hB1:=hb0.trans (hb1.mono hb0.size);have hle:=hb0.size;have dN:=Below.gB hB1 je;go_wp2_with fail;exact jo results17 dM rfl rfl (show nN (zJ p s xa) w _ w9 from⟨V1,rfl,wC.from_ hle,dN⟩)
 have q4:(kd==4)=false:=by simpa using k4
 by_cases k5:kd=5
 ·rw[show act p s ⟨kd,xa,xb,xc,xn,l⟩=pick p s xa xb xc xn by rw[k5];rfl]
  have q5:(kd==5)=true:=by simpa using k5
  clear k1 k2 k3 k4 k5;go_enter func17,ntmps17
  go_wp2_with fail;obtain⟨W0,hW0,hb0,hsE,hK,hD,hR⟩:=yG w p s Ab cb As cs A0 c0 A1 c1 A2 c2 A3 c3 A4 c4 A5 c5 A6 c6 kd xa xb xc xn Al l.length cl;rw[hW0];clear hW0;refine(jmQ _ _ _ p s xa xb xc xn (hP'.O _ hb0) (hV.O _ hb0)).mono ?_
  rintro e W1 ⟨V1,rfl,ho1,hb1⟩;have fH:=hR.O _ hb1;have lG:=dK.one ho1;go_wp2_with (refine dB (.tmp 6) (.tmp 61) dH V1 rfl fH rfl lG (λw9 dM je=>?_))
  have wC:=dK.keptBy ho1 je fH (by decide) (by decide) (by decide) (by decide) (by decide) (by decide)
  have hB1:=hb0.trans (hb1.mono hb0.size);have hle:=hb0.size;have dN:=Below.gB hB1 je;go_wp2_with fail;exact jo results17 dM rfl rfl (show nN (pick p s xa xb xc xn) w _ w9 from⟨V1,rfl,wC.from_ hle,dN⟩)
 have q5:(kd==5)=false:=by simpa using k5
 by_cases k6:kd=6
 ·rw[show act p s ⟨kd,xa,xb,xc,xn,l⟩=fill p s by rw[k6];rfl]
  have q6:(kd==6)=true:=by simpa using k6
  clear k1 k2 k3 k4 k5 k6;go_enter func17,ntmps17
  go_wp2_with fail;obtain⟨W0,hW0,hb0,hsE,hK,hD,hR⟩:=yG w p s Ab cb As cs A0 c0 A1 c1 A2 c2 A3 c3 A4 c4 A5 c5 A6 c6 kd xa xb xc xn Al l.length cl;rw[hW0];clear hW0;refine(jon _ _ _ p s (hP'.O _ hb0) (hV.O _ hb0)).mono ?_
  rintro e W1 ⟨V1,rfl,ho1,hb1⟩;have fH:=hR.O _ hb1;have lG:=dK.one ho1;go_wp2_with (refine dB (.tmp 6) (.tmp 68) dH V1 rfl fH rfl lG (λw9 dM je=>?_))
  have wC:=dK.keptBy ho1 je fH (by decide) (by decide) (by decide) (by decide) (by decide) (by decide)
  have hB1:=hb0.trans (hb1.mono hb0.size);have hle:=hb0.size;have dN:=Below.gB hB1 je;go_wp2_with fail;exact jo results17 dM rfl rfl (show nN (fill p s) w _ w9 from⟨V1,rfl,wC.from_ hle,dN⟩)
 have q6:(kd==6)=false:=by simpa using k6
 by_cases k7:kd=7
 ·rw[show act p s ⟨kd,xa,xb,xc,xn,l⟩=CW p s xa xn by rw[k7];rfl]
  have q7:(kd==7)=true:=by simpa using k7
  clear k1 k2 k3 k4 k5 k6 k7;go_enter func17,ntmps17
  go_wp2_with fail;obtain⟨W0,hW0,hb0,hsE,hK,hD,hR⟩:=yG w p s Ab cb As cs A0 c0 A1 c1 A2 c2 A3 c3 A4 c4 A5 c5 A6 c6 kd xa xb xc xn Al l.length cl;rw[hW0];clear hW0;refine(jlo _ _ _ p s xa xn (hP'.O _ hb0) (hV.O _ hb0)).mono ?_
  rintro e W1 ⟨V1,rfl,ho1,hb1⟩;have fH:=hR.O _ hb1;have lG:=dK.one ho1;go_wp2_with (refine dB (.tmp 6) (.tmp 79) dH V1 rfl fH rfl lG (λw9 dM je=>?_))
  have wC:=dK.keptBy ho1 je fH (by decide) (by decide) (by decide) (by decide) (by decide) (by decide)
  have hB1:=hb0.trans (hb1.mono hb0.size);have hle:=hb0.size;have dN:=Below.gB hB1 je;go_wp2_with fail;exact jo results17 dM rfl rfl (show nN (CW p s xa xn) w _ w9 from⟨V1,rfl,wC.from_ hle,dN⟩)
 have q7:(kd==7)=false:=by simpa using k7
 by_cases k8:kd=8
 ·rw[show act p s ⟨kd,xa,xb,xc,xn,l⟩=count p s xa xb xn by rw[k8];rfl]
  have q8:(kd==8)=true:=by simpa using k8
  clear k1 k2 k3 k4 k5 k6 k7 k8;go_enter func17,ntmps17
  go_wp2_with fail;obtain⟨W0,hW0,hb0,hsE,hK,hD,hR⟩:=yG w p s Ab cb As cs A0 c0 A1 c1 A2 c2 A3 c3 A4 c4 A5 c5 A6 c6 kd xa xb xc xn Al l.length cl;rw[hW0];clear hW0;refine(jlB _ _ _ p s xa xb xn (hP'.O _ hb0) (hV.O _ hb0)).mono ?_
  rintro e W1 ⟨V1,rfl,ho1,hb1⟩;have fH:=hR.O _ hb1;have lG:=dK.one ho1;go_wp2_with (refine dB (.tmp 6) (.tmp 92) dH V1 rfl fH rfl lG (λw9 dM je=>?_))
  have wC:=dK.keptBy ho1 je fH (by decide) (by decide) (by decide) (by decide) (by decide) (by decide)
  have hB1:=hb0.trans (hb1.mono hb0.size);have hle:=hb0.size;have dN:=Below.gB hB1 je;go_wp2_with fail;exact jo results17 dM rfl rfl (show nN (count p s xa xb xn) w _ w9 from⟨V1,rfl,wC.from_ hle,dN⟩)
 have q8:(kd==8)=false:=by simpa using k8
 ·rw[show act p s ⟨kd,xa,xb,xc,xn,l⟩=(jD,8)by unfold act;simp only[k1,k2,k3,k4,k5,k6,k7,k8,uH]]
  clear k1 k2 k3 k4 k5 k6 k7 k8;obtain⟨W0,hW0,hb0,hsE,hK,hD,hR⟩:=yG w p s Ab cb As cs A0 c0 A1 c1 A2 c2 A3 c3 A4 c4 A5 c5 A6 c6 kd xa xb xc xn Al l.length cl;subst hW0;have fH:=hR.O _ (aj _ _);go_enter func17,ntmps17
  go_wp2_with (refine dB (.tmp 6) (.tmp 94) dH dH rfl fH rfl rfl (λw9 dM je=>?_))
  have hle:=hb0.size;have dN:=Below.gB hb0 je;go_wp2_with fail;exact jo results17 dM rfl rfl (jQ rfl dN)
end Wh
namespace Wh
open Go Go.RowKit Go.Shelf Go.Proofs Tryz
attribute [local go_sem] aT
theorem jdo(w:World)(v vs:Value)(p:dA)(s:aJ)(b g n:Int)(hp:mW w w.heap.size v p)(hv:lK w w.heap.size vs s):
  Calls prog 51 #[v,vs,.int .i64 b,.int .i64 g,.int .i64 n] w (nN (rF p s b g n) w):=by
 obtain⟨Ab,cb,As,cs,rfl,hP',hBn,hSz,hlb,hls⟩:=sN hp;obtain⟨A0,c0,A1,c1,A2,c2,A3,c3,A4,c4,A5,c5,A6,c6,rfl,hV,hN,hO,hH,hM,hI,hU,hX,hl0,hl1,hl2,hl3,hl4,hl5,JA⟩:=oW hv;go_enter func51,ntmps51
 go_wp2_with fail;obtain⟨W0,hW0,hb0,lg,uZ,hsE,hK,hR⟩:=yD w p s Ab cb As cs A0 c0 A1 c1 A2 c2 A3 c3 A4 c4 A5 c5 A6 c6;rw[hW0];clear hW0;obtain⟨⟨y0,y1⟩,x0,x1,x2,x3,x4,x5,x6,eP,eU⟩:=hK.O W0 (aj W0.heap.size W0);go_wp2_with fail;clear y0 y1 x0 x1 x2 x3 x4 x5 x6 eP eU;refine(Ag _ _ _ p s (hP'.O _ hb0) (hV.O _ hb0)).mono ?_
 rintro e W1 ⟨rfl,h1⟩;have hB1:=hb0.trans (h1.mono hb0.size);obtain⟨⟨y0,y1⟩,x0,x1,x2,x3,x4,x5,x6,eP,eU⟩:=hK.O W1 (h1);by_cases hc:aQ p s=0
 ·have hc':=ah hc;have hsn:=ah (kM.1 hc).1;rw[hc];clear hc;go_wp2_with fail;clear y0 y1 x0 x1 x2 x3 x4 x5 x6 eP eU;have hcnt:=hsn.O.counts;refine(Ey _ _ p b (hP'.O _ hB1) (by omega)).mono ?_
  rintro e W2 ⟨rfl,h2⟩;have h02:=h1.trans (h2.mono h1.size);have hB2:=hb0.trans (h02.mono hb0.size);obtain⟨⟨y0,y1⟩,x0,x1,x2,x3,x4,x5,x6,eP,eU⟩:=hK.O W2 (h02);cases hth:lV p b
  ·have bK:=ah (BJ (g:=g) (n:=n) hc'.O (by rw[hth];rfl))
   clear hth;have fH:=hR.O _ h02;go_wp2_with (refine dB (.tmp 10) (.tmp 36) dH dH rfl fH rfl rfl (λw9 dM je=>?_))
   have dN:=Below.gB hB2 je;go_wp2_with fail;exact jo results51 dM rfl rfl (jQ bK.O dN)
  ·have hbb:=ah (yT.1 hth);have jf8:=ah hth;clear hth;go_wp2_with fail;clear y0 y1 x0 x1 x2 x3 x4 x5 x6 eP eU;refine(Ej _ _ p g (hP'.O _ hB2) (by omega)).mono ?_
   rintro e W8 ⟨rfl,h8⟩;have DY:=h02.trans (h8.mono h02.size);have Uz:=hb0.trans (DY.mono hb0.size);obtain⟨⟨y0,y1⟩,x0,x1,x2,x3,x4,x5,x6,eP,eU⟩:=hK.O W8 (DY);cases hth:iK p g
   ·have bK:=ah (BJ (n:=n) hc'.O (by rw[jf8.O,hth];rfl))
    clear hth;have fH:=hR.O _ DY;go_wp2_with (refine dB (.tmp 10) (.tmp 36) dH dH rfl fH rfl rfl (λw9 dM je=>?_))
    have dN:=Below.gB Uz je;go_wp2_with fail;exact jo results51 dM rfl rfl (jQ bK.O dN)
   have ZY:=ah (show(lV p b&&iK p g)=true by rw[jf8.O,hth];rfl)
   have hgg:=ah (vN.1 hth);clear hth;go_wp2_with fail;clear y0 y1 x0 x1 x2 x3 x4 x5 x6 eP eU;refine(oH n 1 200 _).mono ?_
   rintro e w' ⟨rfl,rfl⟩;obtain⟨⟨y0,y1⟩,x0,x1,x2,x3,x4,x5,x6,eP,eU⟩:=hK.O W8 (DY);cases hwn:cZ n 1 200
   ·have bK:=ah (BJ (b:=b) (g:=g) (n:=n) hc'.O (by rw[hwn,BN]))
    clear hwn;have fH:=hR.O _ DY;go_wp2_with (refine dB (.tmp 10) (.tmp 36) dH dH rfl fH rfl rfl (λw9 dM je=>?_))
    have dN:=Below.gB Uz je;go_wp2_with fail;exact jo results51 dM rfl rfl (jQ bK.O dN)
   ·have js2:=ah hwn;obtain⟨hn1,hn2⟩:=dV.1 hwn;clear hwn;have kE:=ah (show(lV p b&&iK p g&&cZ n 1 200)=true by rw[ZY.O,js2.O];rfl)
    have hb1:0<=b:=hbb.O.1;have hb2:b<(s.on.length:Int):=by rw[hsn.O.tY];exact hbb.O.2
    have hg1:0<=g:=hgg.O.1;have hg2:g<(p.aP.length:Int):=hgg.O.2;have hbl:b.toNat<s.on.length:=by omega
    have hgs:g.toNat<p.aP.length:=by omega
    have hgl:g.toNat<(fO s.on b.toNat).length:=by rw[hsn.O.rowLen (by have:=hbb.O;omega)];omega
    have hgr:g<((fO s.on b.toNat).length:Int):=by omega
    have hgi:g<(s.gY.length:Int):=by rw[hsn.O.gY.1];omega
    obtain⟨z1,z2⟩:=zH hsn.O.plan hgs;have hm1:=O5 (a:=n) (b:=bI p.aP g.toNat) (by omega) ⟨z1,z2⟩
    have hw1:IntKind.i64.wrap (n*bI p.aP g.toNat)=n*bI p.aP g.toNat:=aN _ (by omega)
    obtain⟨os0,ls0,rs0⟩:=(hSz.O W8 Uz).at_.int hgs;have q0:=λo d os=>bY (w:=W8) (b:=w.heap.size) eU o d os
    have q1:=λo d os=>bY (w:=W8) (b:=w.heap.size+1) eP o d os
    have q2:=λo d os=>bY (w:=W8) (b:=jd As) ls0 o d os
    have hP2:=ah (λd os=>hP'.O _ (Uz.trans ((kW W8 d os).mono Uz.size)))
    have hV2:=ah (λd os=>hV.O _ (Uz.trans ((kW W8 d os).mono Uz.size)))
    by_cases hfu:free p s b<n*bI p.aP g.toNat
    ·have bK:=ah (Q5 (n:=n) hc'.O kE.O hfu);go_wp2_with fail;refine dG (by kernel_rfl) (by kernel_rfl) ?_
     repeat(go_big_quiet_step ((go_at_call 106;refine gI (Zz _ _ _ p s b (hP2.O _ _) (hV2.O _ _) hsn.O hbb.O))))
     refine wpQuiet_nil ?_
     intro W3 hw';have hb3:=dD hw';clear hw';have h03:=DY.trans (hb3.mono DY.size);have hB3:=hb0.trans (h03.mono hb0.size);have fH:=hR.O _ h03;go_wp2_with (refine dB (.tmp 10) (.tmp 49) dH dH rfl fH rfl rfl (λw9 dM je=>?_))
     have dN:=Below.gB hB3 je;go_wp2_with fail;exact jo results51 dM rfl rfl (jQ bK.O dN)
    ·have jd3:n*bI p.aP g.toNat<=free p s b:=by omega
     go_wp2_with fail;refine dG (by kernel_rfl) (by kernel_rfl) ?_
     repeat(go_big_quiet_step ((go_at_call 106;refine gI (Zz _ _ _ p s b (hP2.O _ _) (hV2.O _ _) hsn.O hbb.O))))
     refine wpQuiet_nil ?_
     intro W3 hw';have hb3:=dD hw';clear hw';have h03:=DY.trans (hb3.mono DY.size);have hB3:=hb0.trans (h03.mono hb0.size);clear q0 q1 q2 hP2 hV2 hw1 rs0 os0 ls0;clear y0 y1 x0 x1 x2 x3 x4 x5 x6 eP eU;obtain⟨⟨y0,y1⟩,x0,x1,x2,x3,x4,x5,x6,eP,eU⟩:=hK.O W3 (h03);obtain⟨Ar,cr,or0,TQ,Yx,vS⟩:=(hN.O W3 hB3).row hbl;obtain⟨or1,lr1,QW⟩:=vS.at_.int hgl;obtain⟨oi,li,ri⟩:=(hI.O W3 hB3).at_.int (i:=g.toNat) (by omega)
     have hcl:bI (fO s.on b.toNat) g.toNat=cell s.on b.toNat g.toNat:=rfl;rw[hcl]at QW
     clear hcl;have t1:=hsn.O.cell (b:=b.toNat) (g:=g.toNat) (by have:=hbb.O;omega) hgs
     have t2:=xC hsn.O b g;have t3:=hsn.O.gY.2 hgs;have hw1:IntKind.i64.wrap (cell s.on b.toNat g.toNat+iq s b g)=cell s.on b.toNat g.toNat+iq s b g:=aN _ (by omega)
     have hw2:IntKind.i64.wrap (cell s.on b.toNat g.toNat+iq s b g+n)=cell s.on b.toNat g.toNat+iq s b g+n:=aN _ (by omega)
     have hw3:IntKind.i64.wrap (bI s.gY g.toNat+n)=bI s.gY g.toNat+n:=aN _ (by omega)
     have q1:=λo d os=>bY (w:=W3) (b:=w.heap.size+1) eP o d os
     have q2:=λo d os=>bY (w:=W3) (b:=jd A0) TQ o d os
     have q3:=λo d os=>bY (w:=W3) (b:=jd Ar) lr1 o d os
     have hV2:=ah (λd os=>hV.O _ (hB3.trans ((kW W3 d os).mono hB3.size)))
     have q4:=λo d os=>bY (w:=W3) (b:=jd A4) li o d os
     by_cases hm:200<cell s.on b.toNat g.toNat+iq s b g+n
     ·have bK:=ah (Io (n:=n) hc'.O kE.O jd3 (.inl hm));go_wp2_with fail;refine dG (by kernel_rfl) (by kernel_rfl) ?_
      repeat(go_big_quiet_step ((go_at_call 107;refine gI (LU _ _ p s b g (hV2.O _ _) hsn.O))))
      refine wpQuiet_nil ?_
      intro W4 hw';have hb4:=dD hw';clear hw';have h04:=h03.trans (hb4.mono h03.size);have hB4:=hb0.trans (h04.mono hb0.size);have fH:=hR.O _ h04;go_wp2_with (refine dB (.tmp 10) (.tmp 76) dH dH rfl fH rfl rfl (λw9 dM je=>?_))
      have dN:=Below.gB hB4 je;go_wp2_with fail;exact jo results51 dM rfl rfl (jQ bK.O dN)
     ·have hm':cell s.on b.toNat g.toNat+iq s b g+n<=200:=by omega
      have hdec:=fA hm;clear hm;by_cases hi:1048576<bI s.gY g.toNat+n
      ·have bK:=ah (Io (n:=n) hc'.O kE.O jd3 (.inr hi));go_wp2_with fail;refine dG (by kernel_rfl) (by kernel_rfl) ?_
       repeat(go_big_quiet_step ((go_at_call 107;refine gI (LU _ _ p s b g (hV2.O _ _) hsn.O))))
       refine wpQuiet_nil ?_
       intro W4 hw';have hb4:=dD hw';clear hw';have h04:=h03.trans (hb4.mono h03.size);have hB4:=hb0.trans (h04.mono hb0.size);have fH:=hR.O _ h04;go_wp2_with (refine dB (.tmp 10) (.tmp 76) dH dH rfl fH rfl rfl (λw9 dM je=>?_))
       have dN:=Below.gB hB4 je;go_wp2_with fail;exact jo results51 dM rfl rfl (jQ bK.O dN)
      ·have hi':bI s.gY g.toNat+n<=1048576:=by omega
       clear hi;have bK:=ah (Vw (n:=n) hc'.O kE.O jd3 hm' hi');go_wp2_with fail;refine dG (by kernel_rfl) (by kernel_rfl) ?_
       repeat(go_big_quiet_step ((go_at_call 107;refine gI (LU _ _ p s b g (hV2.O _ _) hsn.O))))
       refine wpQuiet_nil ?_
       intro W4 hw';have hb4:=dD hw';clear hw';have h04:=h03.trans (hb4.mono h03.size);have hB4:=hb0.trans (h04.mono hb0.size);clear q1 q2 q3 q4 hV2 hw1 hw2;clear y0 y1 x0 x1 x2 x3 x4 x5 x6 eP eU;obtain⟨⟨y0,y1⟩,x0,x1,x2,x3,x4,x5,x6,eP,eU⟩:=hK.O W4 (h04);clear Yx QW ri;go_wp2_with fail;clear y0 y1 x0 x1 x2 x3 x4 x5 x6 eP eU;refine(EI _ _ p s (hV.O _ hB4) hsn.O).mono ?_
       rintro e W5 ⟨_,rfl,⟨V5,rfl,AY⟩,h5⟩;have pq:=(AY).one;have xw:=vG (W5);go_wp2_with (refine dB (.tmp 13) (.tmp 78) dH V5 rfl xw rfl pq (λw6 lM Ib=>?_);refine aW ?_)
       unfold Hid;have sG:=qX Ib;have vT:=lM.lt;clear pq xw Ib;have h06:=h04.trans ((h5.trans (sG.mono h5.size)).mono h04.size);have Sm:=hb0.trans (h06.mono hb0.size);have jd1:w.heap.size<=W4.heap.size:=hB4.size;have jbY:W0.heap.size<=W4.heap.size:=h04.size;have ho6:=(AY.below sG).drew;have jiT:jk w6.drew W5.heap.size V5:=lM;have juy:=h06.drew;have juq:=Sm.drew;obtain⟨go,co,PE,gr,cr2,cur,e1,f1,f2,f3,e2,f4,f5,f6⟩:=ho6.Py hbl hgl;have hx0:w6.cell? ⟨W5.heap.size,0,none⟩=_:=lM.cells.1;rw[e1]at hx0
       have f3':w6.cell? ⟨go,b.toNat,none⟩=_:=f3;have f6':w6.cell? ⟨gr,g.toNat,none⟩=_:=f6;have hf:=f5.frozen g.toNat;have hst:=ho6.Yv hbl hgl e2 (cell s.on b.toNat g.toNat+n);have DR:=jiT.off hst.2 f5 (by decide)
       have hw4:IntKind.i64.wrap (cell s.on b.toNat g.toNat+n)=cell s.on b.toNat g.toNat+n:=aN _ (by omega)
       have h07:=juy.setCell (p:=⟨gr,g.toNat,none⟩) (aY jbY f4) (.int .i64 (cell s.on b.toNat g.toNat+n));have YW:=juq.setCell (p:=⟨gr,g.toNat,none⟩) (aY jd1 f4) (.int .i64 (cell s.on b.toNat g.toNat+n));go_wp2_with fail;go_still_tail 17,(by kernel_rfl)
       change wpList _ _ _ _ _ w6.drew;refine vC rfl (.tmp 95) (.tmp 94) rfl rfl gr g.toNat _ _ rfl rfl f6 hf (λw7 hw7=>?_)
       rw[hw7]at hst DR h07 YW
       clear hw7 hw4 hx0 hf f2 f3 f5 f6 f3' f6' e1 e2 ho6 lM jiT;refine fC ?_
       have Ia:dK w7 W4.heap.size V5 {s with on:=setCell s.on b.toNat g.toNat (cell s.on b.toNat g.toNat+n)}:=hst.1
       have jiG:g.toNat<s.gY.length:=by omega
       have jnp:=Ia.drew;have jiS:jk w7.drew W5.heap.size V5:=DR;obtain⟨gi,ci,juK,e3,k1,k2,k3⟩:=dK.BF (l:=s.gY) jnp.gY jiG;have hx4:w7.cell? ⟨W5.heap.size,4,none⟩=_:=DR.cells.2.2.2.2.1;rw[e3]at hx4
       have k3':w7.cell? ⟨gi,g.toNat,none⟩=_:=k3;have hfi:=k2.frozen g.toNat;have hst2:=jnp.jg8 jiG e3 (bI s.gY g.toNat+n);have KW:=jiS.off hst2.2 k2 (by decide)
       have h09:=h07.drew.setCell (p:=⟨gi,g.toNat,none⟩) (aY jbY k1) (.int .i64 (bI s.gY g.toNat+n));have LD:=YW.drew.setCell (p:=⟨gi,g.toNat,none⟩) (aY jd1 k1) (.int .i64 (bI s.gY g.toNat+n));go_wp2_with fail;go_still_tail 11,(by kernel_rfl)
       change wpList _ _ _ _ _ w7.drew;refine vC rfl (.tmp 106) (.tmp 105) rfl rfl gi g.toNat _ _ rfl rfl k3 hfi (λw8 hw8=>?_)
       rw[hw8]at hst2 KW h09 LD
       clear hw8 hx4 hfi k2 k3 k3' e3;refine fC ?_
       have ho8:dK w8 W4.heap.size V5 {s with on:=setCell s.on b.toNat g.toNat (cell s.on b.toNat g.toNat+n),gY:=s.gY.set g.toNat (bI s.gY g.toNat+n)}:=hst2.1
       have jip:=ah ho8;have jea:=ah KW;clear hst hst2 Ia jnp ho8 DR jiS KW AY;have fH:=hR.O _ h09;obtain⟨b0,b1,b2,b3,b4,b5,b6⟩:=jk.cells jea.O;have lG:=dK.one jip.O;go_wp2_with (refine dB (.tmp 10) (.tmp 107) dH V5 rfl fH rfl lG (λw9 dM je=>?_))
       have wC:=dK.keptBy jip.O je fH (by decide) (by decide) (by decide) (by decide) (by decide) (by decide)
       have dN:=Below.gB LD je;clear b0 b1 b2 b3 b4 b5 b6;go_wp2_with fail;exact jo results51 dM rfl rfl (EZ bK.O (wC.from_ jd1) dN)
 ·have hne:(aQ p s !=0)=true:=by simpa using hc
  have bK:=ah (TK (b:=b) (g:=g) (n:=n) hc);clear hc;have fH:=hR.O _ h1;go_wp2_with (refine dB (.tmp 10) (.tmp 19) dH dH rfl fH rfl rfl (λw9 dM je=>?_))
  have dN:=Below.gB hB1 je;go_wp2_with fail;exact jo results51 dM rfl rfl (jQ bK.O dN)
end Wh
namespace Wh
open Go Go.RowKit Go.Shelf Go.Proofs Tryz
attribute [local go_sem] aT jW jm kC
theorem jaE{α:Type}{P:α->Bool}{l:List α}(d:α){k:Nat}(hk:k<l.length)(h:P (l.getD k d)=true):l.any P=true:=by
 rw[lu];refine⟨l[k],bU hk,?_⟩
 simpa[hk]using h
theorem any_none{α:Type}{P:α->Bool}{l:List α}(d:α)(h:∀k,k<l.length->P (l.getD k d)=false):l.any P=false:=by
 rw[qp];intro x hx;obtain⟨k,hk,rfl⟩:=aV hx;have:=h k hk;simp[hk]at this
 simp[this]
theorem jho(w:World)(v vs vl:Value)(p:dA)(s:aJ)(l:List Line)(hp:mW w w.heap.size v p)(hv:lK w w.heap.size vs s)(hl:Sl kP w w.heap.size vl l):
  Calls prog 52 #[v,vs,vl] w (nN (enter p s l) w):=by
 have hL:=ah hl;obtain⟨Al,cl,rfl,hll,hAl⟩:=hl;clear hAl;obtain⟨Ab,cb,As,cs,rfl,hP',hBn,hSz,hlb,hls⟩:=sN hp;obtain⟨A0,c0,A1,c1,A2,c2,A3,c3,A4,c4,A5,c5,A6,c6,rfl,hV,hN,hO,hH,hM,hI,hU,hX,hl0,hl1,hl2,hl3,hl4,hl5,JA⟩:=oW hv;go_enter func52,ntmps52
 go_wp2_with fail;obtain⟨W0,hW0,hb0,lg,uZ,hsE,hK,hR⟩:=yD w p s Ab cb As cs A0 c0 A1 c1 A2 c2 A3 c3 A4 c4 A5 c5 A6 c6;rw[hW0];clear hW0;obtain⟨⟨y0,y1⟩,x0,x1,x2,x3,x4,x5,x6,eP,eU⟩:=hK.O W0 (aj W0.heap.size W0);go_wp2_with fail;clear y0 y1 x0 x1 x2 x3 x4 x5 x6 eP eU;refine(Ag _ _ _ p s (hP'.O _ hb0) (hV.O _ hb0)).mono ?_
 rintro e W1 ⟨rfl,h1⟩;have hB1:=hb0.trans (h1.mono hb0.size);obtain⟨⟨y0,y1⟩,x0,x1,x2,x3,x4,x5,x6,eP,eU⟩:=hK.O W1 (h1);by_cases hc:aQ p s=0
 ·have hc':=ah hc;have hsn:=ah (kM.1 hc).1;rw[hc];clear hc;have hcnt:=hsn.O.counts;by_cases Uw:4<=s.ak.length
  ·have bK:=ah (Jq (l:=l) hc'.O (.inl (by omega)))
   have jiq:(4:Int)<=(s.ak.length:Int):=by omega
   clear Uw;have fH:=hR.O _ h1;go_wp2_with (refine dB (.tmp 6) (.tmp 29) dH dH rfl fH rfl rfl (λw9 dM je=>?_))
   have dN:=Below.gB hB1 je;go_wp2_with fail;exact jo results52 dM rfl rfl (jQ bK.O dN)
  have jto:(s.ak.length:Int)<4:=by omega
  have ho:s.ak.length<4:=by omega
  clear Uw;go_wp2_with fail;refine(oH l.length 1 3 _).mono ?_
  rintro e w' ⟨rfl,rfl⟩;cases hw:cZ l.length 1 3
  ·have bK:=ah (Jq (p:=p) (s:=s) (l:=l) hc'.O (.inr (by have:=nU.1 hw;omega)))
   clear hw;have fH:=hR.O _ h1;go_wp2_with (refine dB (.tmp 6) (.tmp 29) dH dH rfl fH rfl rfl (λw9 dM je=>?_))
   have dN:=Below.gB hB1 je;go_wp2_with fail;exact jo results52 dM rfl rfl (jQ bK.O dN)
  have Z8:1<=l.length/\l.length<=3:=by have:=dV.1 hw;omega
  clear hw;go_wp2_with fail;go_loopw[9] (λi wr=>∃k:Nat,k<=l.length/\i=.int .i64 k/\(∀j,j<k->yH p (gK l j)=false)/\Below W0.heap.size W0 wr) (λi _=>l.length - (RowKit.intOf i).toNat)
  case atStart=>exact⟨0,aK _,rfl,λj hj=>by omega,h1⟩
  case round=>
   clear y0 y1 x0 x1 x2 x3 x4 x5 x6 eP eU;obtain⟨k,hk,rfl,kE,hbw⟩:=hrel;have hall':=ah kE;have hB:=hb0.trans (hbw.mono hb0.size);clear kE hB1 h1;obtain⟨⟨y0,y1⟩,x0,x1,x2,x3,x4,x5,x6,eP,eU⟩:=hK.O wr (hbw);by_cases hlt:k<l.length
   ·obtain⟨hok2,PD,e0,e1,e2,e3⟩:=(hL.O.grow hB).at_.aG hlt;have hlt':(k:Int)<(l.length:Int):=by omega
    have q0:=λo d os=>bY (w:=wr) (b:=w.heap.size) eU o d os
    have q1:=λo d os=>bY (w:=wr) (b:=jd Al) PD o d os
    have hP2:=ah (λd os=>hP'.O _ (hB.trans ((kW wr d os).mono hB.size)))
    cases hg:iK p (gK l k).dh
    ·have hbad:yH p (gK l k)=true:=by unfold yH;rw[hg];rfl
     have bK:=ah (Ov hc'.O ho Z8 (jaE Lc hlt hbad));have hrg:∀W:World,mW W W.heap.size (.agg #[.slice Ab p.bQ.length cb,.slice As p.aP.length cs]) p->Calls prog 69 #[.agg #[.slice Ab p.bQ.length cb,.slice As p.aP.length cs],.int .i64 (gK l k).dh] W λe w'=>e=.returned (.bool false)/\Below W.heap.size W w':=λW hW=>by
      have:=Ej W _ p (gK l k).dh hW (by omega)
      rwa [hg]at this
     have jdT:=ah hrg;clear hg hbad hrg;go_wp2_with fail;refine dG (by kernel_rfl) (by kernel_rfl) ?_
     repeat(go_big_quiet_step ((go_at_call 69;refine gI (jdT.O _ (hP2.O _ _)))))
     refine wpQuiet_nil ?_
     intro W2 hw';have hb2:=dD hw';clear hw';have h02:=hbw.trans (hb2.mono hbw.size);have hB2:=hb0.trans (h02.mono hb0.size);clear q0 q1;have fH:=hR.O _ h02;go_wp2_with (refine dB (.tmp 6) (.tmp 53) dH dH rfl fH rfl rfl (λw9 dM je=>?_))
     have dN:=Below.gB hB2 je;go_wp2_with fail;exact jo results52 dM rfl rfl (jQ bK.O dN)
    ·have hrg:∀W:World,mW W W.heap.size (.agg #[.slice Ab p.bQ.length cb,.slice As p.aP.length cs]) p->Calls prog 69 #[.agg #[.slice Ab p.bQ.length cb,.slice As p.aP.length cs],.int .i64 (gK l k).dh] W λe w'=>e=.returned (.bool true)/\Below W.heap.size W w':=λW hW=>by
      have:=Ej W _ p (gK l k).dh hW (by omega)
      rwa [hg]at this
     have jdT:=ah hrg;clear hrg;cases hw:cZ (gK l k).iw 1 200
     ·have hbad:yH p (gK l k)=true:=by unfold yH;rw[hg,hw];rfl
      have bK:=ah (Ov hc'.O ho Z8 (jaE Lc hlt hbad));have hrw:∀W:World,Calls prog 38 #[.int .i64 (gK l k).iw,.int .i64 1,.int .i64 200] W λe w'=>e=.returned (.bool false)/\W=w':=λW=>by
       have:=oH (gK l k).iw 1 200 W;rwa [hw]at this
      have jnf:=ah hrw;clear hg hw hbad hrw;go_wp2_with fail;refine dG (by kernel_rfl) (by kernel_rfl) ?_
      repeat(go_big_quiet_step (first|(go_at_call 69;refine gI (jdT.O _ (hP2.O _ _)))|(go_at_call 38;refine Dn (jnf.O _))))
      refine wpQuiet_nil ?_
      intro W2 hw';have hb2:=dD hw';clear hw';have h02:=hbw.trans (hb2.mono hbw.size);have hB2:=hb0.trans (h02.mono hb0.size);clear q0 q1;have fH:=hR.O _ h02;go_wp2_with (refine dB (.tmp 6) (.tmp 53) dH dH rfl fH rfl rfl (λw9 dM je=>?_))
      have dN:=Below.gB hB2 je;go_wp2_with fail;exact jo results52 dM rfl rfl (jQ bK.O dN)
     ·have hok:yH p (gK l k)=false:=by unfold yH;rw[hg,hw];rfl
      have hok':=ah hok;have hrw:∀W:World,Calls prog 38 #[.int .i64 (gK l k).iw,.int .i64 1,.int .i64 200] W λe w'=>e=.returned (.bool true)/\W=w':=λW=>by
       have:=oH (gK l k).iw 1 200 W;rwa [hw]at this
      have jnf:=ah hrw;clear hg hw hok hrw;go_wp2_with fail;refine dG (by kernel_rfl) (by kernel_rfl) ?_
      repeat(go_big_quiet_step (first|(go_at_call 69;refine gI (jdT.O _ (hP2.O _ _)))|(go_at_call 38;refine Dn (jnf.O _))))
      refine wpQuiet_nil ?_
      intro W2 hw';have hb2:=dD hw';clear hw';have h02:=hbw.trans (hb2.mono hbw.size);clear q0 q1;go_wp2_with fail;go_roundw
      case rel=>
       refine⟨k+1,by omega,by go_num,λj hj=>?_,h02⟩
       rcases aS.1 hj with h|rfl
       ·exact hall'.O j h
       ·exact hok'.O
      case measure=>simp[RowKit.intOf];omega
   ·obtain rfl:k=l.length:=by omega
    have hnb:=ah (any_none Lc hall'.O);clear hall';go_wp2_with fail;go_loopw[10] (λi wr=>∃k:Nat,k<=l.length/\i=.int .i64 k/\(∀j,j<k->Ku (gK l j)=false)/\Below W0.heap.size W0 wr) (λi _=>l.length - (RowKit.intOf i).toNat)
    case atStart=>exact⟨0,aK _,rfl,λj hj=>by omega,hbw⟩
    case round=>
     clear y0 y1 x0 x1 x2 x3 x4 x5 x6 eP eU;clear hbw hB;obtain⟨k,hk,rfl,kE,hbw⟩:=hrel;have hall':=ah kE;have hB:=hb0.trans (hbw.mono hb0.size);clear kE;obtain⟨⟨y0,y1⟩,x0,x1,x2,x3,x4,x5,x6,eP,eU⟩:=hK.O wr (hbw);by_cases hlt:k<l.length
     ·obtain⟨hok2,PD,e0,e1,e2,e3⟩:=(hL.O.grow hB).at_.aG hlt;have hlt':(k:Int)<(l.length:Int):=by omega
      rcases Ri (gK l k)with⟨g1,hf⟩|⟨g1,g2,hf⟩|⟨g1,g2,hf⟩
      ·have bK:=ah (QM hc'.O ho Z8 hnb.O (jaE Lc hlt hf));clear hf;have fH:=hR.O _ hbw;go_wp2_with (refine dB (.tmp 6) (.tmp 74) dH dH rfl fH rfl rfl (λw9 dM je=>?_))
       have dN:=Below.gB hB je;go_wp2_with fail;exact jo results52 dM rfl rfl (jQ bK.O dN)
      ·have bK:=ah (QM hc'.O ho Z8 hnb.O (jaE Lc hlt hf));clear hf;have fH:=hR.O _ hbw;go_wp2_with (refine dB (.tmp 6) (.tmp 74) dH dH rfl fH rfl rfl (λw9 dM je=>?_))
       have dN:=Below.gB hB je;go_wp2_with fail;exact jo results52 dM rfl rfl (jQ bK.O dN)
      ·have hf':=ah hf;clear hf;go_wp2_with fail;go_roundw
       case rel=>
        refine⟨k+1,by omega,by go_num,λj hj=>?_,hbw⟩
        rcases aS.1 hj with h|rfl
        ·exact hall'.O j h
        ·exact hf'.O
       case measure=>simp[RowKit.intOf];omega
     ·obtain rfl:k=l.length:=by omega
      have hnn:=any_none Lc hall'.O;have bK:=ah (jcs hc'.O ho Z8 hnb.O hnn);clear hnn hall';go_wp2_with fail;clear y0 y1 x0 x1 x2 x3 x4 x5 x6 eP eU;refine(EI _ _ p s (hV.O _ hB) hsn.O).mono ?_
      rintro e W5 ⟨_,rfl,⟨V5,rfl,AY⟩,h5⟩;have pq:=(AY).one;have xw:=vG (W5);go_wp2_with (refine dB (.tmp 11) (.tmp 76) dH V5 rfl xw rfl pq (λw6 lM Ib=>?_);refine aW ?_)
      unfold Hid;have sG:=qX Ib;have vT:=lM.lt;clear pq xw Ib;have hx6:=ah (Bx.of lM (AY.below sG));have h06:=hbw.trans ((h5.trans (sG.mono h5.size)).mono hbw.size);have Sm:=hb0.trans (h06.mono hb0.size);have hle3:w.heap.size<=wr.heap.size:=hB.size;have jq5:W0.heap.size<=wr.heap.size:=hbw.size;have zZ:wr.heap.size<=W5.heap.size:=h5.size;have jtz:W5.heap.size<w6.heap.size:=vT;clear lM AY sG h5 vT;go_wp2_with fail;refine qZ 7 [λgq _=>gq 77=.pointer (some ⟨W5.heap.size,1,none⟩),λgq _=>gq 78=V5.ak,λgq w'=>(λv w'=>∃b,v=.slice (some ⟨b,0,none⟩) 0 0/\w6.heap.size<=b/\iV w' b 44 []) (gq 79) w',λgq _=>gq 80=.slice Al l.length cl,λgq w'=>(λv w'=>Own kP 4 44 w' w6.heap.size v l) (gq 81) w',λgq w'=>(λv w'=>∃u,v=.agg #[.int .i64 0,u]/\Own kP 4 44 w' w6.heap.size u l) (gq 82) w',λgq w'=>(λv w'=>∃bb u,v=.slice (some ⟨bb,0,none⟩) 1 1/\w'.cell? ⟨bb,0,none⟩=some (.int .i64 0)/\w'.cell? ⟨bb,1,none⟩=some u/\bb<w'.heap.size/\Own kP 4 44 w' w6.heap.size u l) (gq 83) w'] (by kernel_rfl) (by kernel_rfl) rfl (by kernel_rfl) ?_ (λf w2 hb2 hR=>?_)
      simp only[bC,bV];refine dX.cons (iR.val rfl rfl (λgq w' hb ho hd=>?_)) ?_
      ·have e11:=ho 11 rfl;go_simp
      refine dX.cons (iR.val rfl rfl (λgq w' hb ho hd=>?_)) ?_
      ·have e77:gq 77=.pointer (some ⟨W5.heap.size,1,none⟩):=hd ⟨0,.data⟩ (by simp) rfl (by decide)
       have x1:=(hx6.O.below hb).cells.2.1;go_simp
      refine dX.cons (iR.one (d:=79) (p:=(λv w'=>∃b,v=.slice (some ⟨b,0,none⟩) 0 0/\w6.heap.size<=b/\iV w' b 44 [])) rfl rfl (λv w1 w2 h hb=>let ⟨b,h1,h2,h3⟩:=h;⟨b,h1,h2,h3.below hb h3.lt⟩) (λgq w' hb ho hd=>?_)) ?_
      ·unfold iT;go_simp
       exact⟨⟨hb.size,iV.new _ _ _⟩,(aj _ _).alloc (au _) _⟩
      refine dX.cons (iR.val rfl rfl (λgq w' hb ho hd=>?_)) ?_
      ·have e2:=ho 2 rfl;go_simp
      refine dX.cons (iR.one (d:=81) (p:=(λv w'=>Own kP 4 44 w' w6.heap.size v l)) rfl rfl (λv w1 w2 h hb=>h.below hb) (λgq w' hb ho hd=>?_)) ?_
      ·have e79:∃b,(gq 79)=.slice (some ⟨b,0,none⟩) 0 0/\w6.heap.size<=b/\iV w' b 44 []:=hd ⟨2,.data⟩ (by simp) rfl (by decide)
       have e80:gq 80=.slice Al l.length cl:=hd ⟨3,.data⟩ (by simp) rfl (by decide)
       obtain⟨bb,e3,S9,Cc⟩:=e79;have hAt:=(hL.O.grow (Sm.trans (hb.mono Sm.size))).at_;obtain⟨u,w3,hr,hb3,h0,h⟩:=vF (P:=prog) w' 32 32 44 _ 4 32 underlying32 NR rfl (by decide) (by decide) bb Cc l Al cl w'.heap.size (λ_=>rfl) hAt (by omega)
       unfold iT;simp only[execOp,resolve,invoke,builtin,jW,e80,e3,jg,jw,iC,kJ,dn,jL,hr];exact⟨(h (by omega)).from_ hb.size,hb3⟩
      refine dX.cons (iR.one (d:=82) (p:=(λv w'=>∃u,v=.agg #[.int .i64 0,u]/\Own kP 4 44 w' w6.heap.size u l)) rfl rfl (λv w1 w2 h hb=>let ⟨u,h1,h2⟩:=h;⟨u,h1,h2.below hb⟩) (λgq w' hb ho hd=>?_)) ?_
      ·have e81:Own kP 4 44 w' w6.heap.size (gq 81) l:=hd ⟨4,.data⟩ (by simp) rfl (by decide)
       obtain⟨E,kc,s30⟩:=e81.isSlice;rw[s30]at e81
       have e':=ah e81;clear e81;unfold iT;go_simp
       exact⟨e'.O,aj _ _⟩
      refine dX.cons (iR.one (d:=83) (p:=(λv w'=>∃bb u,v=.slice (some ⟨bb,0,none⟩) 1 1/\w'.cell? ⟨bb,0,none⟩=some (.int .i64 0)/\w'.cell? ⟨bb,1,none⟩=some u/\bb<w'.heap.size/\Own kP 4 44 w' w6.heap.size u l)) rfl rfl (λv w1 w2 h hb=>let ⟨bb,u,h1,h2,h2',h3,h4⟩:=h;⟨bb,u,h1,(hb.cell (p:=⟨bb,0,none⟩) h3).trans h2,(hb.cell (p:=⟨bb,1,none⟩) h3).trans h2',aI h3 hb.size,h4.below hb⟩) (λgq w' hb ho hd=>?_)) ?_
      ·have e82:∃u,(gq 82)=.agg #[.int .i64 0,u]/\Own kP 4 44 w' w6.heap.size u l:=hd ⟨5,.data⟩ (by simp) rfl (by decide)
       obtain⟨u,e82,hu⟩:=e82;obtain⟨E,kc,s30⟩:=hu.isSlice;rw[s30]at e82 hu
       have e':=ah hu;clear hu;unfold iT;go_simp
       exact⟨e'.O.alloc _,(aj _ _).alloc (au _) _⟩
      exact dX.nil;obtain⟨r77,r78,r79,r80,r81,r82,r83,_⟩:=hR;replace r79:∃b,(f 79)=.slice (some ⟨b,0,none⟩) 0 0/\w6.heap.size<=b/\iV w2 b 44 []:=r79;replace r81:Own kP 4 44 w2 w6.heap.size (f 81) l:=r81;replace r82:∃u,(f 82)=.agg #[.int .i64 0,u]/\Own kP 4 44 w2 w6.heap.size u l:=r82;replace r83:∃bb u,(f 83)=.slice (some ⟨bb,0,none⟩) 1 1/\w2.cell? ⟨bb,0,none⟩=some (.int .i64 0)/\w2.cell? ⟨bb,1,none⟩=some u/\bb<w2.heap.size/\Own kP 4 44 w2 w6.heap.size u l:=r83;simp only[kG,zB,bC,bV,eG,gW,eX,fF,fB,gV,bM,dF,dL,r77,r78,r80];clear r77 r78 r80;obtain⟨bb,u,r4,d0,d1,l4,o4⟩:=r83;simp only[r4];clear r4 r81 r82;obtain⟨E,kc,rfl⟩:=o4.isSlice;have hx2:=hx6.O.below hb2;have Uw:=uJ hx2.own.llen;refine lS _ rfl (.tmp 78) (.tmp 83) 27 42 rfl wr.heap.size _ 2 32 underlying27 O9 rfl (by decide) (by decide) V5.ak (zI s.ak V5.aH) (0,.slice E l.length kc) rfl hx2.own.ak ⟨bb,0,none⟩ 1 rfl rfl (λj x hj=>by
       rw[gU,eY];match j,hj with
       |0,hj=>exact d0.trans hj
       |1,hj=>exact d1.trans hj
       |j+2,hj=>simp[Nl]at hj) (ZJ _ rfl) (by omega) (by have:=hb2.size;omega) ?_
      intro v7 w7 yM LC Tc ET;obtain⟨hk7,Ia⟩:=hx6.O.KJ hb2 (x:=⟨0,l⟩) (o4.from_ (by omega)) (λg hg=>(o4.size g hg).1) LC yM
      obtain⟨Av,cv,hv7⟩:=yM.isSlice;simp only[aZ,dw,dY,eY]at hv7
      have h07:=h06.trans ((hb2.mono h06.size).trans (ET.mono (by omega)))
      have hT7:=hx2.ty;rw[hv7]at Ia
      rw[hv7];have Z7:=ah Ia;have jiE:=ah hk7;clear yM LC Tc hv7 d0 d1 l4 o4 hx2 Uw hk7 Ia;go_wp2_with (refine PI rfl (.tmp 85) (.tmp 84) rfl rfl Av _ cv jiE.O Z7.O hT7 rfl rfl rfl (λw8 KQ AX=>?_);refine aW ?_)
      unfold Hid;have jf9:=h07.size;have DY:=h07.trans (AX.below (B:=W0.heap.size) (λk hk=>by omega) jf9)
      have Uz:=hb0.trans (DY.mono hb0.size);obtain⟨V8,KQ⟩:∃V8,Bx w8 wr.heap.size W5.heap.size 31 [] V8 {s with ak:=s.ak++[⟨0,l⟩]}:=⟨_,KQ⟩
      have vP:=ah KQ;clear Z7 jiE KQ AX jf9;have fH:=hR.O _ DY;obtain⟨b0,b1,b2,b3,b4,b5,b6⟩:=jk.cells vP.O.uK;have lG:=dK.one vP.O.own;go_wp2_with (refine dB (.tmp 6) (.tmp 86) dH V8 rfl fH rfl lG (λw9 dM je=>?_))
      have wC:=dK.keptBy vP.O.own je fH (by decide) (by decide) (by decide) (by decide) (by decide) (by decide)
      have dN:=Below.gB Uz je;clear b0 b1 b2 b3 b4 b5 b6;go_wp2_with fail;exact jo results52 dM rfl rfl (EZ bK.O (wC.from_ hle3) dN)
 ·have hne:(aQ p s !=0)=true:=by simpa using hc
  have bK:=ah (Y6 (l:=l) hc);clear hc;have fH:=hR.O _ h1;go_wp2_with (refine dB (.tmp 6) (.tmp 17) dH dH rfl fH rfl rfl (λw9 dM je=>?_))
  have dN:=Below.gB hB1 je;go_wp2_with fail;exact jo results52 dM rfl rfl (jQ bK.O dN)
end Wh
