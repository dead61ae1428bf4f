/- Texts of the claim, joined. -/
import Derived.Deep.Slices
import Derived.Deep.Fields
import Derived.ChangeSame
import Derived.Test.YtfhfkijmebhgmaaGreatChecked
import Derived.KernelRfl
import Derived.Test.YtfhfkijmebhgmaaGreatQ36
import Derived.Test.YtfhfkijmebhgmaaGreatQ38
set_option maxHeartbeats 20000000
set_option maxRecDepth 100000
namespace Wh
open Go Go.RowKit Go.Shelf Go.Proofs Tryz
attribute [local go_sem] au dQ dI dX
theorem jmn (w:World) (v vs vd:Value) (p:Plan) (s:State) (x:qo) (hp:fZ w w.heap.size v p) (hv:fE w w.heap.size vs s) (hd:OC w w.heap.size vd x) (hcap:SX vs):
  Calls prog 18 #[v,vs,vd] w (gU (act p s x) w):=by
 obtain ⟨Ab,cb,As,cs,rfl,hP',hBn,hSz,hlb,hls⟩:=kN hp;obtain ⟨A0,c0,A1,c1,A2,c2,A3,c3,A4,c4,A5,c5,A6,c6,rfl,hV,hN,hO,hH,hM,hI,hU,hX,hl0,hl1,hl2,hl3,hl4,hl5,CW⟩:=iG hv;obtain ⟨Al,cl,rfl,hDV,hLn,hll⟩:=LW hd;obtain ⟨kd,xa,xb,xc,xn,l⟩:=x;simp only at hDV hLn hll ⊢
 have hcap':=Lib.hid hcap;clear hd hp hv hcap;by_cases k1:kd=1
 ·rw [show act p s ⟨kd,xa,xb,xc,xn,l⟩=receive p s xa xb xn by rw [k1];rfl]
  have q1:(kd==1)=true:=by simpa using k1
  clear k1;go_enter func18,ntmps18
  go_wp2_with fail;obtain ⟨W0,hW0,hb0,hsE,hK,hD,hR⟩:=oJ w p s Ab cb As cs A0 c0 A1 c1 A2 c2 A3 c3 A4 c4 A5 c5 A6 c6 kd xa xb xc xn Al l.length cl;rw [hW0];clear hW0;refine (jaN _ _ _ p s xa xb xn (hP'.out _ hb0) (hV.out _ hb0)).mono ?_
  rintro e W1 ⟨V1,rfl,ho1,hb1⟩;have aX:=hR.out _ hb1;have eU:=aO.one ho1;go_wp2_with (refine aK (.tmp 6) (.tmp 21) aP V1 rfl aX rfl eU (fun w9 aN dh=>?_))
  have ng:=aO.keptBy ho1 dh aX (by decide) (by decide) (by decide) (by decide) (by decide) (by decide)
  have hB1:=hb0.trans (hb1.mono hb0.size);have hle:=hb0.size;have aQ:=Below.bG hB1 dh;go_wp2_with fail;exact dn results18 aN rfl rfl (show gU (receive p s xa xb xn) w _ w9 from ⟨V1,rfl,ng.from_ hle,aQ⟩)
 have q1:(kd==1)=false:=by simpa using k1
 by_cases k2:kd=2
 ·rw [show act p s ⟨kd,xa,xb,xc,xn,l⟩=enter p s l by rw [k2];rfl]
  have q2:(kd==2)=true:=by simpa using k2
  clear k1 k2;go_enter func18,ntmps18
  go_wp2_with fail;obtain ⟨W0,hW0,hb0,hsE,hK,hD,hR⟩:=oJ w p s Ab cb As cs A0 c0 A1 c1 A2 c2 A3 c3 A4 c4 A5 c5 A6 c6 kd xa xb xc xn Al l.length cl;rw [hW0];clear hW0;refine (jeU _ _ _ _ p s l (hP'.out _ hb0) (hV.out _ hb0) (hLn.out _ hb0)).mono ?_
  rintro e W1 ⟨V1,rfl,ho1,hb1⟩;have aX:=hR.out _ hb1;have eU:=aO.one ho1;go_wp2_with (refine aK (.tmp 6) (.tmp 30) aP V1 rfl aX rfl eU (fun w9 aN dh=>?_))
  have ng:=aO.keptBy ho1 dh aX (by decide) (by decide) (by decide) (by decide) (by decide) (by decide)
  have hB1:=hb0.trans (hb1.mono hb0.size);have hle:=hb0.size;have aQ:=Below.bG hB1 dh;go_wp2_with fail;exact dn results18 aN rfl rfl (show gU (enter p s l) w _ w9 from ⟨V1,rfl,ng.from_ hle,aQ⟩)
 have q2:(kd==2)=false:=by simpa using k2
 by_cases k3:kd=3
 ·rw [show act p s ⟨kd,xa,xb,xc,xn,l⟩=release p s by rw [k3];rfl]
  have q3:(kd==3)=true:=by simpa using k3
  clear k1 k2 k3;go_enter func18,ntmps18
  go_wp2_with fail;obtain ⟨W0,hW0,hb0,hsE,hK,hD,hR⟩:=oJ w p s Ab cb As cs A0 c0 A1 c1 A2 c2 A3 c3 A4 c4 A5 c5 A6 c6 kd xa xb xc xn Al l.length cl;rw [hW0];clear hW0;refine (jaM _ _ _ p s (hP'.out _ hb0) (hV.out _ hb0)).mono ?_
  rintro e W1 ⟨V1,rfl,ho1,hb1⟩;have aX:=hR.out _ hb1;have eU:=aO.one ho1;go_wp2_with (refine aK (.tmp 6) (.tmp 37) aP V1 rfl aX rfl eU (fun w9 aN dh=>?_))
  have ng:=aO.keptBy ho1 dh aX (by decide) (by decide) (by decide) (by decide) (by decide) (by decide)
  have hB1:=hb0.trans (hb1.mono hb0.size);have hle:=hb0.size;have aQ:=Below.bG hB1 dh;go_wp2_with fail;exact dn results18 aN rfl rfl (show gU (release p s) w _ w9 from ⟨V1,rfl,ng.from_ hle,aQ⟩)
 have q3:(kd==3)=false:=by simpa using k3
 by_cases k4:kd=4
 ·rw [show act p s ⟨kd,xa,xb,xc,xn,l⟩=cancel p s xa by rw [k4];rfl]
  have q4:(kd==4)=true:=by simpa using k4
  clear k1 k2 k3 k4;go_enter func18,ntmps18
  go_wp2_with fail;obtain ⟨W0,hW0,hb0,hsE,hK,hD,hR⟩:=oJ w p s Ab cb As cs A0 c0 A1 c1 A2 c2 A3 c3 A4 c4 A5 c5 A6 c6 kd xa xb xc xn Al l.length cl;rw [hW0];clear hW0;refine (jdm _ _ _ p s xa (hP'.out _ hb0) (hV.out _ hb0)).mono ?_
  rintro e W1 ⟨V1,rfl,ho1,hb1⟩;have aX:=hR.out _ hb1;have eU:=aO.one ho1;go_wp2_with (refine aK (.tmp 6) (.tmp 46) aP V1 rfl aX rfl eU (fun w9 aN dh=>?_))
  have ng:=aO.keptBy ho1 dh aX (by decide) (by decide) (by decide) (by decide) (by decide) (by decide)
  have hB1:=hb0.trans (hb1.mono hb0.size);have hle:=hb0.size;have aQ:=Below.bG hB1 dh;go_wp2_with fail;exact dn results18 aN rfl rfl (show gU (cancel p s xa) w _ w9 from ⟨V1,rfl,ng.from_ hle,aQ⟩)
 have q4:(kd==4)=false:=by simpa using k4
 by_cases k5:kd=5
 ·rw [show act p s ⟨kd,xa,xb,xc,xn,l⟩=pick p s xa xb xc xn by rw [k5];rfl]
  have q5:(kd==5)=true:=by simpa using k5
  clear k1 k2 k3 k4 k5;go_enter func18,ntmps18
  go_wp2_with fail;obtain ⟨W0,hW0,hb0,hsE,hK,hD,hR⟩:=oJ w p s Ab cb As cs A0 c0 A1 c1 A2 c2 A3 c3 A4 c4 A5 c5 A6 c6 kd xa xb xc xn Al l.length cl;rw [hW0];clear hW0;refine (jhL _ _ _ p s xa xb xc xn (hP'.out _ hb0) (hV.out _ hb0)).mono ?_
  rintro e W1 ⟨V1,rfl,ho1,hb1⟩;have aX:=hR.out _ hb1;have eU:=aO.one ho1;go_wp2_with (refine aK (.tmp 6) (.tmp 61) aP V1 rfl aX rfl eU (fun w9 aN dh=>?_))
  have ng:=aO.keptBy ho1 dh aX (by decide) (by decide) (by decide) (by decide) (by decide) (by decide)
  have hB1:=hb0.trans (hb1.mono hb0.size);have hle:=hb0.size;have aQ:=Below.bG hB1 dh;go_wp2_with fail;exact dn results18 aN rfl rfl (show gU (pick p s xa xb xc xn) w _ w9 from ⟨V1,rfl,ng.from_ hle,aQ⟩)
 have q5:(kd==5)=false:=by simpa using k5
 by_cases k6:kd=6
 ·rw [show act p s ⟨kd,xa,xb,xc,xn,l⟩=fill p s by rw [k6];rfl]
  have q6:(kd==6)=true:=by simpa using k6
  clear k1 k2 k3 k4 k5 k6;go_enter func18,ntmps18
  go_wp2_with fail;obtain ⟨W0,hW0,hb0,hsE,hK,hD,hR⟩:=oJ w p s Ab cb As cs A0 c0 A1 c1 A2 c2 A3 c3 A4 c4 A5 c5 A6 c6 kd xa xb xc xn Al l.length cl;rw [hW0];clear hW0;refine (jhN _ _ _ p s (hP'.out _ hb0) (hV.out _ hb0)).mono ?_
  rintro e W1 ⟨V1,rfl,ho1,hb1⟩;have aX:=hR.out _ hb1;have eU:=aO.one ho1;go_wp2_with (refine aK (.tmp 6) (.tmp 68) aP V1 rfl aX rfl eU (fun w9 aN dh=>?_))
  have ng:=aO.keptBy ho1 dh aX (by decide) (by decide) (by decide) (by decide) (by decide) (by decide)
  have hB1:=hb0.trans (hb1.mono hb0.size);have hle:=hb0.size;have aQ:=Below.bG hB1 dh;go_wp2_with fail;exact dn results18 aN rfl rfl (show gU (fill p s) w _ w9 from ⟨V1,rfl,ng.from_ hle,aQ⟩)
 have q6:(kd==6)=false:=by simpa using k6
 by_cases k7:kd=7
 ·rw [show act p s ⟨kd,xa,xb,xc,xn,l⟩=moved p s xa xn by rw [k7];rfl]
  have q7:(kd==7)=true:=by simpa using k7
  clear k1 k2 k3 k4 k5 k6 k7;go_enter func18,ntmps18
  go_wp2_with fail;obtain ⟨W0,hW0,hb0,hsE,hK,hD,hR⟩:=oJ w p s Ab cb As cs A0 c0 A1 c1 A2 c2 A3 c3 A4 c4 A5 c5 A6 c6 kd xa xb xc xn Al l.length cl;rw [hW0];clear hW0;refine (jeT _ _ _ p s xa xn (hP'.out _ hb0) (hV.out _ hb0) hcap'.out).mono ?_
  rintro e W1 ⟨V1,rfl,ho1,hb1⟩;have aX:=hR.out _ hb1;have eU:=aO.one ho1;go_wp2_with (refine aK (.tmp 6) (.tmp 79) aP V1 rfl aX rfl eU (fun w9 aN dh=>?_))
  have ng:=aO.keptBy ho1 dh aX (by decide) (by decide) (by decide) (by decide) (by decide) (by decide)
  have hB1:=hb0.trans (hb1.mono hb0.size);have hle:=hb0.size;have aQ:=Below.bG hB1 dh;go_wp2_with fail;exact dn results18 aN rfl rfl (show gU (moved p s xa xn) w _ w9 from ⟨V1,rfl,ng.from_ hle,aQ⟩)
 have q7:(kd==7)=false:=by simpa using k7
 by_cases k8:kd=8
 ·rw [show act p s ⟨kd,xa,xb,xc,xn,l⟩=count p s xa xb xn by rw [k8];rfl]
  have q8:(kd==8)=true:=by simpa using k8
  clear k1 k2 k3 k4 k5 k6 k7 k8;go_enter func18,ntmps18
  go_wp2_with fail;obtain ⟨W0,hW0,hb0,hsE,hK,hD,hR⟩:=oJ w p s Ab cb As cs A0 c0 A1 c1 A2 c2 A3 c3 A4 c4 A5 c5 A6 c6 kd xa xb xc xn Al l.length cl;rw [hW0];clear hW0;refine (jeV _ _ _ p s xa xb xn (hP'.out _ hb0) (hV.out _ hb0)).mono ?_
  rintro e W1 ⟨V1,rfl,ho1,hb1⟩;have aX:=hR.out _ hb1;have eU:=aO.one ho1;go_wp2_with (refine aK (.tmp 6) (.tmp 92) aP V1 rfl aX rfl eU (fun w9 aN dh=>?_))
  have ng:=aO.keptBy ho1 dh aX (by decide) (by decide) (by decide) (by decide) (by decide) (by decide)
  have hB1:=hb0.trans (hb1.mono hb0.size);have hle:=hb0.size;have aQ:=Below.bG hB1 dh;go_wp2_with fail;exact dn results18 aN rfl rfl (show gU (count p s xa xb xn) w _ w9 from ⟨V1,rfl,ng.from_ hle,aQ⟩)
 have q8:(kd==8)=false:=by simpa using k8
 ·rw [show act p s ⟨kd,xa,xb,xc,xn,l⟩=(dJ,8) by unfold act;simp only [k1,k2,k3,k4,k5,k6,k7,k8,yN]]
  clear k1 k2 k3 k4 k5 k6 k7 k8;obtain ⟨W0,hW0,hb0,hsE,hK,hD,hR⟩:=oJ w p s Ab cb As cs A0 c0 A1 c1 A2 c2 A3 c3 A4 c4 A5 c5 A6 c6 kd xa xb xc xn Al l.length cl;subst hW0;have aX:=hR.out _ (aj _ _);go_enter func18,ntmps18
  go_wp2_with (refine aK (.tmp 6) (.tmp 94) aP aP rfl aX rfl rfl (fun w9 aN dh=>?_))
  have hle:=hb0.size;have aQ:=Below.bG hb0 dh;go_wp2_with fail;exact dn results18 aN rfl rfl (dF rfl aQ)
end Wh
namespace Wh
open Go Go.RowKit Go.Shelf Go.Proofs Tryz
attribute [local go_sem] au dQ dI dX
theorem logDoesWalk (w:World) (v vs vd:Value) (p:Plan) (s:State) (x:qo) (hp:fZ w w.heap.size v p) (hv:fE w w.heap.size vs s) (hd:OC w w.heap.size vd x) (hcap:SX vs):
  Calls prog 8 #[v,vs,vd] w fun e w'=>e=.returned (.bool true)∧Below w.heap.size w w':=by
 have hcap':=Lib.hid hcap;obtain ⟨Ab,cb,As,cs,rfl,hP',hBn,hSz,hlb,hls⟩:=kN hp;obtain ⟨A0,c0,A1,c1,A2,c2,A3,c3,A4,c4,A5,c5,A6,c6,rfl,hV,hN,hO,hH,hM,hI,hU,hX,hl0,hl1,hl2,hl3,hl4,hl5,CW⟩:=iG hv;obtain ⟨Al,cl,rfl,hDV,hLn,hll⟩:=LW hd;clear hd hp hv hcap;go_enter func8,ntmps8
 go_wp2_with fail;obtain ⟨W0,hW0,hb0,hsE,hK,hD⟩:=Vl w p s Ab cb As cs A0 c0 A1 c1 A2 c2 A3 c3 A4 c4 A5 c5 A6 c6 x.kind x.a x.b x.c x.n Al x.lines.length cl;rw [hW0];clear hW0;obtain ⟨d0,d1,d2,d3,d4,d5,dl⟩:=hD.out _ (aj _ _);obtain ⟨⟨y0,y1⟩,x0,x1,x2,x3,x4,x5,x6,aV,aW⟩:=hK.out W0 (aj W0.heap.size W0);go_wp2_with fail;clear y0 y1 x0 x1 x2 x3 x4 x5 x6 aV aW;clear d0 d1 d2 d3 d4 d5 dl;refine (jko _ _ _ _ p s x (hP'.out _ hb0) (hV.out _ hb0) (hDV.out _ hb0)).mono ?_
 rintro e W1 ⟨V1,rfl,ho1,hb1⟩;have jjp:=(ho1).one;have jnW:=pV (W1);go_wp2_with (refine aK (.tmp 7) (.tmp 16) aP V1 rfl jnW rfl jjp (fun w2 jgm hg2=>?_);refine aU ?_)
 unfold Hid;have jgw:=jK hg2;have jlf:=jgm.lt;clear jjp jnW hg2;have DV:=hb1.trans (jgw.mono hb1.size);have hB2:=hb0.trans (DV.mono hb0.size);have hv1:=Lib.hid ((ho1.below jgw).view0 (Sj p s x));have jgl:=Lib.hid jgm;clear jgm ho1 hb1 jgw;obtain ⟨d0,d1,d2,d3,d4,d5,dl⟩:=hD.out _ DV;obtain ⟨⟨y0,y1⟩,x0,x1,x2,x3,x4,x5,x6,aV,aW⟩:=hK.out w2 (DV);go_wp2_with fail;clear y0 y1 x0 x1 x2 x3 x4 x5 x6 aV aW;clear d0 d1 d2 d3 d4 d5 dl;refine (jmn _ _ _ _ p s x (hP'.out _ hB2) (hV.out _ hB2) (hDV.out _ hB2) hcap'.out).mono ?_
 rintro e W3 ⟨V3,rfl,ho3,hb3⟩;have Y9:=(ho3).one;have jfV:=pV (W3);go_wp2_with (refine aK (.tmp 9) (.tmp 23) aP V3 rfl jfV rfl Y9 (fun w4 Ro hg4=>?_);refine aU ?_)
 unfold Hid;have jbJ:=jK hg4;have zA:=Ro.lt;clear Y9 jfV hg4;have h24:=hb3.trans (jbJ.mono hb3.size);have h04:=DV.trans (h24.mono DV.size);have hB4:=hb0.trans (h04.mono hb0.size);have hv3:=Lib.hid ((ho3.below jbJ).view0 (Sj p s x));have jpY:=Lib.hid (hv1.out.grow h24);have Rn:=Lib.hid Ro;have jiv:=Lib.hid (jgl.out.below h24 jlf);have jok:=aZ jlf h24.size;clear Ro ho3 hb3 jbJ jgl hv1 DV hB2 jlf;go_wp2_with fail;refine (jfd _).mono ?_
 rintro e W5 ⟨rfl,h5⟩;have hB5:=hB4.trans (h5.mono hB4.size);obtain ⟨p0,p1,p2,p3,p4,p5,p6⟩:=(jiv.out.below h5 jok).cells;obtain ⟨q0,q1,q2,q3,q4,q5,q6⟩:=(Rn.out.below h5 zA).cells;have hx1:=jpY.out.grow h5;have hx2:=hv3.out.grow h5;go_wp2_with fail;clear p0 p1 p2 p3 p4 p5 p6 q0 q1 q2 q3 q4 q5 q6;refine (Yu _ _ _ _ hx1 hx2).mono ?_
 rintro e W6 ⟨rfl,h6⟩;go_wp2_with fail;go_ret
 exact ⟨rfl,hB5.trans (h6.mono hB5.size)⟩
end Wh
namespace Wh
open Go Go.RowKit Go.ChangeShapes Go.WideShapes Go.Deep
theorem cell_lt {w:World} {a:Addr} {v:Value} (h:w.cell? a=some v):a.block<w.heap.size:=by
 by_cases hlt:a.block<w.heap.size
 ·exact hlt
 ·unfold World.cell? at h
  rw [qh (by omega)] at h
  simp at h
section
variable {H:Type} {en:TypeId×Value→H} {P:Program} {w:World} {base:Nat} {sp:Nat→Bool} {hd:Bool}
def Rd (en:TypeId×Value→H) (P:Program) (w:World) (base:Nat) (sp:Nat→Bool) (hd:Bool) (t:TypeId) (cs:List Value):Prop:=
 ∃ (n:Nat) (x:DataW H×List MemPlace),DataW.trod en P w base sp hd n t cs=some x∧∀ k∈x.1.weights P t,k≤reachBytes
theorem Rd.int {t:TypeId} {cs:List Value} (ht:P.underlying t=some (.int .i64)) (h:Rd en P w base sp hd t cs):∃ n,cs=[.int .i64 n]:=by
 obtain ⟨n,x,h,_⟩:=h;obtain ⟨m,hm,_⟩:=DataW.trod_int ht h;exact ⟨m,hm⟩
theorem Rd.bool {t:TypeId} {cs:List Value} (ht:P.underlying t=some .bool) (h:Rd en P w base sp hd t cs):∃ b,cs=[.bool b]:=by
 obtain ⟨n,x,h,_⟩:=h;obtain ⟨m,hm,_⟩:=DataW.trod_bool ht h;exact ⟨m,hm⟩
theorem Rd.fields {t:TypeId} {fs:Array Field} {cs:List Value} (hs:P.underlying t=some (.struct fs)) (hone:oneCellFields P fs=true) (hC:P.cellsOf t=fs.size) (h:Rd en P w base sp hd t cs):
  cs.length=fs.size∧∀ (j:Nat) (f:Field),fs[j]?=some f→∃ v,cs[j]?=some v∧Rd en P w base sp hd f.type [v]:=by
 obtain ⟨n,x,h,hw⟩:=h;obtain ⟨xs,m,_,hx,hlen,hxl,hf⟩:=DataW.trod_struct hs h;rw [hC] at hlen
 refine ⟨hlen,fun j f hj=>?_⟩
 have hjl:j<fs.size:=(gX.1 hj).1
 obtain ⟨ho,hk⟩:=hone_of hone j f hj;have h1:=hf j f hj;rw [ho,hk,wO (by omega)] at h1
 have hys:xs[j]?=some (xs[j]'(by omega)):=fF (by omega)
 refine ⟨cs[j]'(by omega),fF (by omega),m,xs[j]'(by omega),by rw [← hys,← h1];rfl,fun k hkm=>hw k ?_⟩
 rw [hx];simp only [DataW.weights,hs];refine XR (j:=j) (t:=f.type) (d:=(xs[j]'(by omega)).1) ?_ ?_ k hkm
 ·rw [qc,XT,hj];rfl
 ·rw [qc,hys];rfl
theorem FY {e:TypeId}:∀ {ds:List (DataW H)} {j:Nat} {d:DataW H},ds[j]?=some d→∀ n∈d.weights P e,n∈DataW.weightsAll P e ds
 |d0::ds,0,d,hd,n,hn=>by
  simp only [Lm,AV] at hd
  subst hd;simp only [DataW.weightsAll,qQ];exact Or.inl hn
 |d0::ds,j+1,d,hd,n,hn=>by
  simp only [PN] at hd
  simp only [DataW.weightsAll,qQ];exact Or.inr (FY hd n hn)
 |[],_,_,hd,_,_=>by simp at hd
theorem Rd.slice {t e:TypeId} {k:Nat} {cs:List Value} (ht:P.underlying t=some (.slice e)) (hC:P.cellsOf e=k) (hB:0<P.bytesOf e) (h:Rd en P w base sp hd t cs):
  ∃ (A:Option Addr) (len c:Nat),cs=[.slice A len c]∧len≤140737488355232∧
   ∀ i,i<len→∃ cs',cs'.length=k∧Rd en P w base sp hd e cs'∧∀ j v,cs'[j]?=some v→okA A∧dD A<w.heap.size∧w.cell? ⟨dD A,jy A+(i*k+j),none⟩=some v:=by
 obtain ⟨n,x,h,hw⟩:=h;rcases open_slice ht h with ⟨rfl,_⟩|⟨a,len,cap,m,n',D,Pl,rfl,_,hl,_,hm,hx,hi⟩
 ·exact ⟨none,0,0,rfl,by omega,fun i hi=>by omega⟩
 ·have hlm:len≤m:=by rw [hm];split<;>omega
  have hreach:(len+(m - len))*P.bytesOf e≤reachBytes:=hw _ (by rw [hx];simp [DataW.weights,ht])
  have hspot:0<len→0<k→a.spot=none:=fun h1 h2=>by
   obtain ⟨cs',hc,_⟩:=hi 0 (by omega)
   rw [hC] at hc
   obtain ⟨_,hcl,hat⟩:=World.cells?_some hc
   have hcell:=hat 0 h2;rw [fF (by omega),add_add] at hcell
   have:=World.cell?_spot hcell
   simpa [Addr.add] using this
  refine ⟨some a,len,cap,rfl,?_,fun i hi'=>?_⟩
  ·have h1:len*1≤(len+(m - len))*P.bytesOf e:=Gp (by omega) hB
   simp only [reachBytes] at hreach
   omega
  ·obtain ⟨cs',hc,ht'⟩:=hi i (by omega)
   rw [hC] at hc
   obtain ⟨_,hcl,hat⟩:=World.cells?_some hc
   refine ⟨cs',hcl,⟨n',_,ht',fun q hq=>hw q ?_⟩,fun j v hj=>?_⟩
   ·rw [hx];simp only [DataW.weights,ht,nY,qQ];refine .inr (.inl (FY (j:=i) (d:=D i) ?_ q hq))
    rw [qc,Bl hi'];rfl
   ·have hjl:j<k:=by rw [← hcl];exact (lC.1 hj).1
    have hcell:=hat j hjl;rw [hj,add_add] at hcell
    obtain ⟨b,off,spot⟩:=a;obtain rfl:spot=none:=hspot (by omega) (by omega)
    rw [jq] at hcell
    exact ⟨YH _ _,cell_lt (a:=⟨b,off+(i*k+j),none⟩) hcell,hcell⟩
theorem Rd.sl {α:Type} {enc:α→List Value} {k:Nat} {t e:TypeId} {cs:List Value} [Inhabited α] (ht:P.underlying t=some (.slice e)) (hC:P.cellsOf e=k) (hB:0<P.bytesOf e) (hk:∀ x,(enc x).length=k) (h0:0<k)
  (hel:∀ cs',cs'.length=k→Rd en P w base sp hd e cs'→∃ x:α,cs'=enc x) (h:Rd en P w base sp hd t cs):∃ v l,cs=[v]∧Sl enc w w.heap.size v l:=by
 obtain ⟨A,len,c,rfl,hlen,hi⟩:=h.slice ht hC hB;obtain ⟨X,hX⟩:=choose_lt (α:=α) (n:=len) (p:=fun i x=>∀ j v,(enc x)[j]?=some v→okA A∧dD A<w.heap.size∧w.cell? ⟨dD A,jy A+(i*k+j),none⟩=some v) (fun i hil=>by
  obtain ⟨cs',h1,h2,h3⟩:=hi i hil;obtain ⟨x,rfl⟩:=hel cs' h1 h2;exact ⟨x,h3⟩)
 refine ⟨_,(List.range len).map X,rfl,A,c,by simp,by simpa using hlen,fun hn=>?_⟩
 have hcell:∀ j v,(((List.range len).map X).flatMap enc)[j]?=some v→okA A∧dD A<w.heap.size∧w.cell? ⟨dD A,jy A+j,none⟩=some v:=fun j v hj=>by
  have hjl:j<len*k:=by
   have:=(lC.1 hj).1
   rw [flat_length enc k hk] at this
   simpa using this
  have hq:j / k<len:=(Xw h0).2 hjl;have e1:j / k*k+j%k=j:=by rw [Nat.mul_comm];exact Nat.div_add_mod j k
  have e2:=flat_get enc k hk ((List.range len).map X) (j / k) (j%k) (X (j / k)) (by rw [qc,Bl hq];rfl) (Nat.mod_lt _ h0)
  rw [e1,hj] at e2
  have:=hX (j / k) hq (j%k) v e2.symm;rwa [e1] at this
 have hlp:0<(((List.range len).map X).flatMap enc).length:=XF.2 hn;obtain ⟨h1,h2,_⟩:=hcell 0 _ (fF hlp)
 exact ⟨h1,h2,fun j v hj=>(hcell j v hj).2.2⟩
theorem Rd.cells {α:Type} [Inhabited α] {k:Nat} {t e:TypeId} {cs:List Value} {enc:Value→α→List Value} {Q:Value→α→Prop} (ht:P.underlying t=some (.slice e)) (hC:P.cellsOf e=k) (hB:0<P.bytesOf e) (hk:∀ v x,(enc v x).length=k) (h0:0<k)
  (hel:∀ cs',cs'.length=k→Rd en P w base sp hd e cs'→∃ (v:Value) (x:α),cs'=enc v x∧Q v x) (h:Rd en P w base sp hd t cs):
  ∃ (A:Option Addr) (c:Nat) (l:List α) (vs:List Value),cs=[.slice A l.length c]∧l.length≤140737488355232∧vs.length=l.length∧At w w.heap.size A ((l.zip vs).flatMap fun x=>enc x.2 x.1)∧
   ∀ (i:Nat) (x:α),l[i]?=some x→∃ u,vs[i]?=some u∧Q u x:=by
 obtain ⟨A,len,c,rfl,hlen,hi⟩:=h.slice ht hC hB;obtain ⟨X,hX⟩:=choose_lt (α:=α×Value) (n:=len) (p:=fun i x=>Q x.2 x.1∧∀ j v,(enc x.2 x.1)[j]?=some v→okA A∧dD A<w.heap.size∧w.cell? ⟨dD A,jy A+(i*k+j),none⟩=some v) (fun i hil=>by
  obtain ⟨cs',h1,h2,h3⟩:=hi i hil;obtain ⟨v,x,rfl,hq⟩:=hel cs' h1 h2;exact ⟨(x,v),hq,h3⟩)
 refine ⟨A,c,(List.range len).map (fun i=>(X i).1),(List.range len).map (fun i=>(X i).2),by simp,by simpa using hlen,by simp,?_,fun i x hix=>?_⟩
 ·have hz:((List.range len).map (fun i=>(X i).1)).zip ((List.range len).map (fun i=>(X i).2))=(List.range len).map X:=by
   rw [List.zip_map']
  rw [hz];intro hn;have hcell:∀ j v,(((List.range len).map X).flatMap fun x=>enc x.2 x.1)[j]?=some v→okA A∧dD A<w.heap.size∧w.cell? ⟨dD A,jy A+j,none⟩=some v:=fun j v hj=>by
   have hjl:j<len*k:=by
    have:=(lC.1 hj).1
    rw [flat_length (fun x:α×Value=>enc x.2 x.1) k (fun x=>hk _ _)] at this
    simpa using this
   have hq:j / k<len:=(Xw h0).2 hjl;have e1:j / k*k+j%k=j:=by rw [Nat.mul_comm];exact Nat.div_add_mod j k
   have e2:=flat_get (fun x:α×Value=>enc x.2 x.1) k (fun x=>hk _ _) ((List.range len).map X) (j / k) (j%k) (X (j / k)) (by rw [qc,Bl hq];rfl) (Nat.mod_lt _ h0)
   rw [e1,hj] at e2
   have:=(hX (j / k) hq).2 (j%k) v e2.symm;rwa [e1] at this
  have hlp:0<(((List.range len).map X).flatMap fun x=>enc x.2 x.1).length:=XF.2 hn
  obtain ⟨h1,h2,_⟩:=hcell 0 _ (fF hlp)
  exact ⟨h1,h2,fun j v hj=>(hcell j v hj).2.2⟩
 ·rw [qc] at hix
  obtain ⟨i',hi',rfl⟩:=Xv.1 hix;have hil:i<len:=by
   have:=(lC.1 hi').1
   simpa using this
  rw [Bl hil] at hi'
  obtain rfl:=gB hi';exact ⟨(X i).2,by rw [qc,Bl hil];rfl,(hX i hil).1⟩
end
end Wh
namespace Wh
open Go Go.RowKit Go.ChangeShapes Go.WideShapes Go.Deep Go.Proofs Tryz
instance:Inhabited Bin:=⟨⟨false,0,0,0⟩⟩
instance:Inhabited Hold:=⟨⟨0,0,0,0⟩⟩
def structFields (P:Program) (t:TypeId):Array Field:=match P.underlying t with
 |some (.struct fs)=>fs
 |_=>#[]
theorem wC {P:Program} {t:TypeId} (h:(match P.underlying t with|some (.struct _)=>true|_=>false)=true):P.underlying t=some (.struct (structFields P t)):=by
 unfold structFields;split at h
 ·rename_i h';rw [h']
 ·cases h
theorem C9:prog.underlying 3=some (.int .i64):=by kernel_rfl
theorem jjW:prog.underlying 4=some .bool:=by kernel_rfl
theorem jjV:prog.underlying 23=some (.slice 3):=by kernel_rfl
theorem jjU:prog.underlying 26=some (.slice 23):=by kernel_rfl
theorem jjX:prog.underlying 22=some (.slice 125):=by kernel_rfl
theorem jpa:prog.cellsOf 3=1:=by kernel_rfl
theorem jlL:prog.cellsOf 23=1:=by kernel_rfl
theorem jpl:0<prog.bytesOf 3:=uy (by kernel_rfl)
theorem jlQ:0<prog.bytesOf 23:=uy (by kernel_rfl)
theorem jpm:0<prog.bytesOf 125:=uy (by kernel_rfl)
theorem jcl:prog.underlying 125=some (.struct (structFields prog 125)):=wC (by kernel_rfl)
theorem jcv:oneCellFields prog (structFields prog 125)=true:=by kernel_rfl
theorem jcx:(structFields prog 125).size=4:=by kernel_rfl
theorem Z7:prog.cellsOf 125=4:=by kernel_rfl
theorem jcX:(structFields prog 125).toList.map (·.type)=[4,3,3,3]:=by kernel_rfl
theorem jaG:prog.underlying 25=some (.struct (structFields prog 25)):=wC (by kernel_rfl)
theorem je7:oneCellFields prog (structFields prog 25)=true:=by kernel_rfl
theorem je9:(structFields prog 25).size=2:=by kernel_rfl
theorem jb9:prog.cellsOf 25=2:=by kernel_rfl
theorem jgU:(structFields prog 25).toList.map (·.type)=[22,23]:=by kernel_rfl
section
variable {H:Type} {en:TypeId×Value→H} {w:World} {base:Nat} {sp:Nat→Bool} {hd:Bool}
theorem Rd.field {P:Program} {t:TypeId} {fs:Array Field} {cs:List Value} {ts:List TypeId} (hs:P.underlying t=some (.struct fs)) (hone:oneCellFields P fs=true) (hC:P.cellsOf t=fs.size) (hf:fs.toList.map (·.type)=ts)
  (h:Rd en P w base sp hd t cs) (j:Nat) (t':TypeId) (hj:ts[j]?=some t'):∃ v,cs[j]?=some v∧Rd en P w base sp hd t' [v]:=by
 subst hf;rw [qc,XT] at hj
 obtain ⟨f,hf,rfl⟩:=Xv.1 hj;exact (h.fields hs hone hC).2 j f hf
abbrev Rt (en:TypeId×Value→H) (w:World) (base:Nat) (sp:Nat→Bool) (hd:Bool) (t:TypeId) (cs:List Value):Prop:=Rd en prog w base sp hd t cs
theorem Rt.ints {cs:List Value} (h:Rt en w base sp hd 23 cs):∃ v l,cs=[v]∧Sl dY w w.heap.size v l:=
 Rd.sl jjV jpa jpl (fun _=>rfl) (by decide) (fun cs' _ h=>h.int C9) h
theorem Rt.rows {cs:List Value} (h:Rt en w base sp hd 26 cs):∃ v l,cs=[v]∧xK dY w w.heap.size v l:=by
 obtain ⟨A,c,l,vs,rfl,h1,h2,h3,h4⟩:=Rd.cells (α:=List Int) (k:=1) (enc:=fun v _=>[v]) (Q:=fun v x=>Sl dY w w.heap.size v x) jjU jlL jlQ (fun _ _=>rfl) (by decide) (fun cs' _ h=>by
  obtain ⟨v,l,rfl,hs⟩:=Rt.ints h;exact ⟨v,l,rfl,hs⟩) h
 refine ⟨_,l,rfl,A,c,vs,rfl,h1,h2,?_,h4⟩
 have:((l.zip vs).flatMap fun x=>[x.2])=vs:=by
  rw [← List.map_eq_flatMap,List.map_snd_zip];omega
 rwa [this] at h3
theorem Rt.bin {cs:List Value} (hl:cs.length=4) (h:Rt en w base sp hd 125 cs):∃ b,cs=Jv b:=by
 match cs,hl with
 |[v0,v1,v2,v3],_=>
  obtain ⟨x0,e0,r0⟩:=h.field jcl jcv (Z7.trans jcx.symm) jcX 0 _ rfl;obtain ⟨x1,e1,r1⟩:=h.field jcl jcv (Z7.trans jcx.symm) jcX 1 _ rfl;obtain ⟨x2,e2,r2⟩:=h.field jcl jcv (Z7.trans jcx.symm) jcX 2 _ rfl;obtain ⟨x3,e3,r3⟩:=h.field jcl jcv (Z7.trans jcx.symm) jcX 3 _ rfl;obtain rfl:=gB e0;obtain rfl:=gB e1;obtain rfl:=gB e2;obtain rfl:=gB e3;obtain ⟨b0,q0⟩:=r0.bool jjW;obtain ⟨b1,q1⟩:=r1.int C9;obtain ⟨b2,q2⟩:=r2.int C9;obtain ⟨b3,q3⟩:=r3.int C9;obtain rfl:=(iL q0).1;obtain rfl:=(iL q1).1;obtain rfl:=(iL q2).1;obtain rfl:=(iL q3).1;exact ⟨⟨b0,b1,b2,b3⟩,rfl⟩
theorem Rt.aH {cs:List Value} (h:Rt en w base sp hd 22 cs):∃ v l,cs=[v]∧Sl Jv w w.heap.size v l:=
 Rd.sl jjX Z7 jpm (fun _=>rfl) (by decide) (fun _ hl h=>Rt.bin hl h) h
theorem Rt.plan {cs:List Value} (hl:cs.length=2) (h:Rt en w base sp hd 25 cs):∃ v0 v1 p,cs=[v0,v1]∧fZ w w.heap.size (.agg #[v0,v1]) p:=by
 match cs,hl with
 |[v0,v1],_=>
  obtain ⟨x0,e0,r0⟩:=h.field jaG je7 (jb9.trans je9.symm) jgU 0 _ rfl;obtain ⟨x1,e1,r1⟩:=h.field jaG je7 (jb9.trans je9.symm) jgU 1 _ rfl;obtain rfl:=gB e0;obtain rfl:=gB e1;obtain ⟨_,l0,q0,hs0⟩:=Rt.aH r0;obtain ⟨_,l1,q1,hs1⟩:=Rt.ints r1;obtain rfl:=(iL q0).1;obtain rfl:=(iL q1).1;exact ⟨_,_,⟨l0,l1⟩,rfl,_,_,rfl,hs0,hs1⟩
theorem rd_of {P:Program} {ts:List TypeId} {ds:List (DataW H)} {j:Nat} {t:TypeId} {v:Value} {d:DataW H} {ps:List MemPlace} (hsz:(DataW.weightsEach P ts ds).all (·≤reachBytes)=true) (ht:ts[j]?=some t) (hds:ds[j]?=some d)
  (h:DataW.Trod en P w base sp hd t v d ps):Rd en P w base sp hd t v.cells.toList:=by
 obtain ⟨n,hn⟩:=h;exact ⟨n,_,hn,fun k hk=>by simpa using bY.1 hsz _ (XR ht hds k hk)⟩
theorem plan_of {b0:Nat} {r:Reach} {v:Value} (hv:Value.okWide prog w r b0 25 v) (h:Rt en w base sp hd 25 v.cells.toList):∃ p,fZ w w.heap.size v p:=by
 obtain ⟨cs,rfl,hsz⟩:=okWide_struct jaG hv;obtain ⟨l⟩:=cs;obtain ⟨v0,v1,p,e,hp⟩:=Rt.plan (by simpa [Value.cells] using hsz.trans jb9) h
 have e':l=[v0,v1]:=by simpa [Value.cells] using e
 subst e';exact ⟨p,hp⟩
end
end Wh
namespace Wh
open Go Go.RowKit Go.ChangeShapes Go.WideShapes Go.Deep Go.Proofs Tryz
theorem jhA:prog.underlying 28=some (.slice 46):=by kernel_rfl
theorem jlR:0<prog.bytesOf 46:=uy (by kernel_rfl)
theorem jj4:prog.underlying 46=some (.struct (structFields prog 46)):=wC (by kernel_rfl)
theorem jkh:oneCellFields prog (structFields prog 46)=true:=by kernel_rfl
theorem jkk:(structFields prog 46).size=4:=by kernel_rfl
theorem jhb:prog.cellsOf 46=4:=by kernel_rfl
theorem jlH:(structFields prog 46).toList.map (·.type)=[3,3,3,3]:=by kernel_rfl
section
variable {H:Type} {en:TypeId×Value→H} {w:World} {base:Nat} {sp:Nat→Bool} {hd:Bool}
theorem Rt.ND {t:TypeId} (s_t:prog.underlying t=some (.struct (structFields prog t))) (o_t:oneCellFields prog (structFields prog t)=true) (c_t:prog.cellsOf t=(structFields prog t).size)
  (f_t:(structFields prog t).toList.map (·.type)=[3,3,3,3]) {cs:List Value} (hl:cs.length=4) (h:Rt en w base sp hd t cs):∃ a b c d:Int,cs=[.int .i64 a,.int .i64 b,.int .i64 c,.int .i64 d]:=by
 match cs,hl with
 |[v0,v1,v2,v3],_=>
  obtain ⟨x0,e0,r0⟩:=h.field s_t o_t c_t f_t 0 _ rfl;obtain ⟨x1,e1,r1⟩:=h.field s_t o_t c_t f_t 1 _ rfl;obtain ⟨x2,e2,r2⟩:=h.field s_t o_t c_t f_t 2 _ rfl;obtain ⟨x3,e3,r3⟩:=h.field s_t o_t c_t f_t 3 _ rfl;obtain rfl:=gB e0;obtain rfl:=gB e1;obtain rfl:=gB e2;obtain rfl:=gB e3;obtain ⟨b0,q0⟩:=r0.int C9;obtain ⟨b1,q1⟩:=r1.int C9;obtain ⟨b2,q2⟩:=r2.int C9;obtain ⟨b3,q3⟩:=r3.int C9;obtain rfl:=(iL q0).1;obtain rfl:=(iL q1).1;obtain rfl:=(iL q2).1;obtain rfl:=(iL q3).1;exact ⟨b0,b1,b2,b3,rfl⟩
theorem Rt.hold {cs:List Value} (hl:cs.length=4) (h:Rt en w base sp hd 46 cs):∃ x,cs=bM x:=by
 obtain ⟨a,b,c,d,rfl⟩:=Rt.ND jj4 jkh (jhb.trans jkk.symm) jlH hl h;exact ⟨⟨a,b,c,d⟩,rfl⟩
theorem Rt.holds {cs:List Value} (h:Rt en w base sp hd 28 cs):∃ v l,cs=[v]∧Sl bM w w.heap.size v l:=
 Rd.sl jhA jhb jlR (fun _=>rfl) (by decide) (fun _ hl h=>Rt.hold hl h) h
end
end Wh
namespace Wh
open Go Go.RowKit Go.ChangeShapes Go.WideShapes Go.Deep Go.Proofs Tryz
instance:Inhabited Line:=⟨dLine⟩
instance:Inhabited Move:=⟨Iu⟩
instance:Inhabited Order:=⟨yC⟩
theorem jhz:prog.underlying 32=some (.slice 44):=by kernel_rfl
theorem jcg:prog.underlying 29=some (.slice 48):=by kernel_rfl
theorem jeo:prog.underlying 27=some (.slice 42):=by kernel_rfl
theorem jlP:0<prog.bytesOf 44:=uy (by kernel_rfl)
theorem jj3:prog.underlying 44=some (.struct (structFields prog 44)):=wC (by kernel_rfl)
theorem jkg:oneCellFields prog (structFields prog 44)=true:=by kernel_rfl
theorem jkj:(structFields prog 44).size=4:=by kernel_rfl
theorem jha:prog.cellsOf 44=4:=by kernel_rfl
theorem jlG:(structFields prog 44).toList.map (·.type)=[3,3,3,3]:=by kernel_rfl
theorem jlO:0<prog.bytesOf 48:=uy (by kernel_rfl)
theorem jj2:prog.underlying 48=some (.struct (structFields prog 48)):=wC (by kernel_rfl)
theorem jkf:oneCellFields prog (structFields prog 48)=true:=by kernel_rfl
theorem jki:(structFields prog 48).size=4:=by kernel_rfl
theorem jg9:prog.cellsOf 48=4:=by kernel_rfl
theorem jlF:(structFields prog 48).toList.map (·.type)=[3,3,3,3]:=by kernel_rfl
theorem ji2:0<prog.bytesOf 42:=uy (by kernel_rfl)
theorem jck:prog.underlying 42=some (.struct (structFields prog 42)):=wC (by kernel_rfl)
theorem jcu:oneCellFields prog (structFields prog 42)=true:=by kernel_rfl
theorem jcw:(structFields prog 42).size=2:=by kernel_rfl
theorem Xf:prog.cellsOf 42=2:=by kernel_rfl
theorem jcW:(structFields prog 42).toList.map (·.type)=[3,32]:=by kernel_rfl
theorem zY:prog.underlying 31=some (.struct (structFields prog 31)):=wC (by kernel_rfl)
theorem Dj:oneCellFields prog (structFields prog 31)=true:=by kernel_rfl
theorem Dn:(structFields prog 31).size=7:=by kernel_rfl
theorem Ai:prog.cellsOf 31=7:=by kernel_rfl
theorem Dz:(structFields prog 31).toList.map (·.type)=[26,27,28,29,23,23,23]:=by kernel_rfl
section
variable {H:Type} {en:TypeId×Value→H} {w:World} {base:Nat} {sp:Nat→Bool} {hd:Bool}
theorem Rt.line {cs:List Value} (hl:cs.length=4) (h:Rt en w base sp hd 44 cs):∃ x,cs=eP x:=by
 obtain ⟨a,b,c,d,rfl⟩:=Rt.ND jj3 jkg (jha.trans jkj.symm) jlG hl h;exact ⟨⟨a,b,c,d⟩,rfl⟩
theorem Rt.move {cs:List Value} (hl:cs.length=4) (h:Rt en w base sp hd 48 cs):∃ x,cs=gV x:=by
 obtain ⟨a,b,c,d,rfl⟩:=Rt.ND jj2 jkf (jg9.trans jki.symm) jlF hl h;exact ⟨⟨a,b,c,d⟩,rfl⟩
theorem Rt.lines {cs:List Value} (h:Rt en w base sp hd 32 cs):∃ v l,cs=[v]∧Sl eP w w.heap.size v l:=
 Rd.sl jhz jha jlP (fun _=>rfl) (by decide) (fun _ hl h=>Rt.line hl h) h
theorem Rt.moves {cs:List Value} (h:Rt en w base sp hd 29 cs):∃ v l,cs=[v]∧Sl gV w w.heap.size v l:=
 Rd.sl jcg jg9 jlO (fun _=>rfl) (by decide) (fun _ hl h=>Rt.move hl h) h
theorem Rt.order {cs:List Value} (hl:cs.length=2) (h:Rt en w base sp hd 42 cs):∃ (v:Value) (x:Order),cs=[.int .i64 x.kind,v]∧Sl eP w w.heap.size v x.lines:=by
 match cs,hl with
 |[v0,v1],_=>
  obtain ⟨x0,e0,r0⟩:=h.field jck jcu (Xf.trans jcw.symm) jcW 0 _ rfl;obtain ⟨x1,e1,r1⟩:=h.field jck jcu (Xf.trans jcw.symm) jcW 1 _ rfl;obtain rfl:=gB e0;obtain rfl:=gB e1;obtain ⟨b0,q0⟩:=r0.int C9;obtain ⟨_,l1,q1,hs1⟩:=Rt.lines r1;obtain rfl:=(iL q0).1;obtain rfl:=(iL q1).1;exact ⟨_,⟨b0,l1⟩,rfl,hs1⟩
theorem Rt.orders {cs:List Value} (h:Rt en w base sp hd 27 cs):∃ v l,cs=[v]∧gI w w.heap.size v l:=by
 obtain ⟨A,c,l,vs,rfl,h1,h2,h3,h4⟩:=Rd.cells (α:=Order) (k:=2) (enc:=fun v x=>[.int .i64 x.kind,v]) (Q:=fun v x=>Sl eP w w.heap.size v x.lines) jeo Xf ji2 (fun _ _=>rfl) (by decide) (fun cs' hl h=>Rt.order hl h) h
 exact ⟨_,l,rfl,A,c,vs,rfl,h1,h2,h3,h4⟩
theorem Rt.state {cs:List Value} (hl:cs.length=7) (h:Rt en w base sp hd 31 cs):∃ s,fE w w.heap.size (.agg cs.toArray) s:=by
 match cs,hl with
 |[v0,v1,v2,v3,v4,v5,v6],_=>
  obtain ⟨x0,e0,r0⟩:=h.field zY Dj (Ai.trans Dn.symm) Dz 0 _ rfl;obtain ⟨x1,e1,r1⟩:=h.field zY Dj (Ai.trans Dn.symm) Dz 1 _ rfl;obtain ⟨x2,e2,r2⟩:=h.field zY Dj (Ai.trans Dn.symm) Dz 2 _ rfl;obtain ⟨x3,e3,r3⟩:=h.field zY Dj (Ai.trans Dn.symm) Dz 3 _ rfl;obtain ⟨x4,e4,r4⟩:=h.field zY Dj (Ai.trans Dn.symm) Dz 4 _ rfl;obtain ⟨x5,e5,r5⟩:=h.field zY Dj (Ai.trans Dn.symm) Dz 5 _ rfl;obtain ⟨x6,e6,r6⟩:=h.field zY Dj (Ai.trans Dn.symm) Dz 6 _ rfl;obtain rfl:=gB e0;obtain rfl:=gB e1;obtain rfl:=gB e2;obtain rfl:=gB e3;obtain rfl:=gB e4;obtain rfl:=gB e5;obtain rfl:=gB e6;obtain ⟨_,l0,q0,hs0⟩:=Rt.rows r0;obtain ⟨_,l1,q1,hs1⟩:=Rt.orders r1;obtain ⟨_,l2,q2,hs2⟩:=Rt.holds r2;obtain ⟨_,l3,q3,hs3⟩:=Rt.moves r3;obtain ⟨_,l4,q4,hs4⟩:=Rt.ints r4;obtain ⟨_,l5,q5,hs5⟩:=Rt.ints r5;obtain ⟨_,l6,q6,hs6⟩:=Rt.ints r6;obtain rfl:=(iL q0).1;obtain rfl:=(iL q1).1;obtain rfl:=(iL q2).1;obtain rfl:=(iL q3).1;obtain rfl:=(iL q4).1;obtain rfl:=(iL q5).1;obtain rfl:=(iL q6).1;exact ⟨⟨l0,l1,l2,l3,l4,l5,l6⟩,_,_,_,_,_,_,_,rfl,hs0,hs1,hs2,hs3,hs4,hs5,hs6⟩
end
end Wh
namespace Wh
open Go Go.RowKit Go.ChangeShapes Go.WideShapes Go.Deep Go.Proofs Tryz
section
variable {H:Type} {en:TypeId×Value→H} {w:World} {base:Nat} {sp:Nat→Bool} {hd:Bool}
theorem Rd.cap {P:Program} {t e:TypeId} {cs:List Value} (ht:P.underlying t=some (.slice e)) (h:Rd en P w base sp hd t cs):∃ (A:Option Addr) (len c:Nat),cs=[.slice A len c]∧len≤c:=by
 obtain ⟨n,x,h,hw⟩:=h;rcases open_slice ht h with ⟨rfl,_⟩|⟨a,len,cap,m,n',D,Pl,rfl,_,hl,_⟩
 ·exact ⟨none,0,0,rfl,aA _⟩
 ·exact ⟨some a,len,cap,rfl,hl⟩
theorem Rt.jnf {cs:List Value} (hl:cs.length=7) (h:Rt en w base sp hd 31 cs):SX (.agg cs.toArray):=by
 match cs,hl with
 |[v0,v1,v2,v3,v4,v5,v6],_=>
  obtain ⟨x3,e3,r3⟩:=h.field zY Dj (Ai.trans Dn.symm) Dz 3 _ rfl;obtain rfl:=gB e3;obtain ⟨A,n,c,q,hc⟩:=Rd.cap jcg r3;obtain rfl:=(iL q).1;exact ⟨_,_,_,A,n,c,_,_,_,rfl,hc⟩
theorem state_cap_of {b0:Nat} {r:Reach} {v:Value} (hv:Value.okWide prog w r b0 31 v) (h:Rt en w base sp hd 31 v.cells.toList):∃ s,fE w w.heap.size v s∧SX v:=by
 obtain ⟨cs,rfl,hsz⟩:=okWide_struct zY hv;have hl:cs.toList.length=7:=by simpa [Value.cells] using hsz.trans Ai
 have h':Rt en w base sp hd 31 cs.toList:=by simpa [Value.cells] using h
 obtain ⟨s,hs⟩:=Rt.state hl h';exact ⟨s,by simpa [Value.cells] using hs,by simpa using Rt.jnf hl h'⟩
end
end Wh
namespace Wh
open Go Go.RowKit Go.ChangeShapes Go.WideShapes Go.Deep Go.Proofs Tryz
theorem Qq:prog.underlying 34=some (.struct (structFields prog 34)):=wC (by kernel_rfl)
theorem UG:oneCellFields prog (structFields prog 34)=true:=by kernel_rfl
theorem UH:(structFields prog 34).size=6:=by kernel_rfl
theorem SK:prog.cellsOf 34=6:=by kernel_rfl
theorem U7:(structFields prog 34).toList.map (·.type)=[3,3,3,3,3,32]:=by kernel_rfl
section
variable {H:Type} {en:TypeId×Value→H} {w:World} {base:Nat} {sp:Nat→Bool} {hd:Bool}
theorem Rt.act {cs:List Value} (hl:cs.length=6) (h:Rt en w base sp hd 34 cs):∃ x,OC w w.heap.size (.agg cs.toArray) x:=by
 match cs,hl with
 |[v0,v1,v2,v3,v4,v5],_=>
  obtain ⟨x0,e0,r0⟩:=h.field Qq UG (SK.trans UH.symm) U7 0 _ rfl;obtain ⟨x1,e1,r1⟩:=h.field Qq UG (SK.trans UH.symm) U7 1 _ rfl;obtain ⟨x2,e2,r2⟩:=h.field Qq UG (SK.trans UH.symm) U7 2 _ rfl;obtain ⟨x3,e3,r3⟩:=h.field Qq UG (SK.trans UH.symm) U7 3 _ rfl;obtain ⟨x4,e4,r4⟩:=h.field Qq UG (SK.trans UH.symm) U7 4 _ rfl;obtain ⟨x5,e5,r5⟩:=h.field Qq UG (SK.trans UH.symm) U7 5 _ rfl;obtain rfl:=gB e0;obtain rfl:=gB e1;obtain rfl:=gB e2;obtain rfl:=gB e3;obtain rfl:=gB e4;obtain rfl:=gB e5;obtain ⟨b0,q0⟩:=r0.int C9;obtain ⟨b1,q1⟩:=r1.int C9;obtain ⟨b2,q2⟩:=r2.int C9;obtain ⟨b3,q3⟩:=r3.int C9;obtain ⟨b4,q4⟩:=r4.int C9;obtain ⟨_,l5,q5,hs5⟩:=Rt.lines r5;obtain rfl:=(iL q0).1;obtain rfl:=(iL q1).1;obtain rfl:=(iL q2).1;obtain rfl:=(iL q3).1;obtain rfl:=(iL q4).1;obtain rfl:=(iL q5).1;exact ⟨⟨b0,b1,b2,b3,b4,l5⟩,_,rfl,hs5⟩
theorem act_of {b0:Nat} {r:Reach} {v:Value} (hv:Value.okWide prog w r b0 34 v) (h:Rt en w base sp hd 34 v.cells.toList):∃ x,OC w w.heap.size v x:=by
 obtain ⟨cs,rfl,hsz⟩:=okWide_struct Qq hv;obtain ⟨x,hx⟩:=Rt.act (by simpa [Value.cells] using hsz.trans SK) h
 exact ⟨x,by simpa [Value.cells] using hx⟩
end
end Wh
