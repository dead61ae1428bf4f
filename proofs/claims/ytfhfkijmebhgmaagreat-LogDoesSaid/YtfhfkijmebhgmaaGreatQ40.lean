/- Texts of the claim, joined. -/
import Derived.Deep.Slices
import Derived.Deep.Fields
import Derived.ChangeSame
import Derived.Test.YtfhfkijmebhgmaaGreatChecked
import Derived.KernelRfl
import Derived.Test.YtfhfkijmebhgmaaGreatQ37
import Derived.Test.YtfhfkijmebhgmaaGreatQ39
set_option maxHeartbeats 20000000
set_option maxRecDepth 100000
namespace Wh
open Go Go.RowKit Go.Shelf Go.Proofs Tryz
attribute [local go_sem] aT jW jm kC
theorem jlM(w:World)(v vs vd:Value)(p:dA)(s:aJ)(x:yK)(hp:mW w w.heap.size v p)(hv:lK w w.heap.size vs s)(hd:Ur w w.heap.size vd x)(hcap:Si vs):
  Calls prog 18 #[v,vs,vd] w (nN (act p s x) w):=by
 obtain⟨Ab,cb,As,cs,rfl,hP',hBn,hSz,hlb,hls⟩:=sN hp;obtain⟨A0,c0,A1,c1,A2,c2,A3,c3,A4,c4,A5,c5,A6,c6,rfl,hV,hN,hO,hH,hM,hI,hU,hX,hl0,hl1,hl2,hl3,hl4,hl5,JA⟩:=oW hv;obtain⟨Al,cl,rfl,hDV,hLn,hll⟩:=Rf hd;obtain⟨kd,xa,xb,xc,xn,l⟩:=x;simp only at hDV hLn hll ⊢
 have hcap':=ah hcap;clear hd hp hv hcap;by_cases k1:kd=1
 ·rw[show act p s ⟨kd,xa,xb,xc,xn,l⟩=rF p s xa xb xn by rw[k1];rfl]
  have q1:(kd==1)=true:=by simpa using k1
  clear k1;go_enter func18,ntmps18
  go_wp2_with fail;obtain⟨W0,hW0,hb0,hsE,hK,hD,hR⟩:=yG w p s Ab cb As cs A0 c0 A1 c1 A2 c2 A3 c3 A4 c4 A5 c5 A6 c6 kd xa xb xc xn Al l.length cl;rw[hW0];clear hW0;refine(jdo _ _ _ p s xa xb xn (hP'.O _ hb0) (hV.O _ hb0)).mono ?_
  rintro e W1 ⟨V1,rfl,ho1,hb1⟩;have fH:=hR.O _ hb1;have lG:=dK.one ho1;go_wp2_with (refine dB (.tmp 6) (.tmp 21) dH V1 rfl fH rfl lG (λw9 dM je=>?_))
  have wC:=dK.keptBy ho1 je fH (by decide) (by decide) (by decide) (by decide) (by decide) (by decide)
  have hB1:=hb0.trans (hb1.mono hb0.size);have hle:=hb0.size;have dN:=Below.gB hB1 je;go_wp2_with fail;exact jo results18 dM rfl rfl (show nN (rF p s xa xb xn) w _ w9 from⟨V1,rfl,wC.from_ hle,dN⟩)
 have q1:(kd==1)=false:=by simpa using k1
 by_cases k2:kd=2
 ·rw[show act p s ⟨kd,xa,xb,xc,xn,l⟩=enter p s l by rw[k2];rfl]
  have q2:(kd==2)=true:=by simpa using k2
  clear k1 k2;go_enter func18,ntmps18
  go_wp2_with fail;obtain⟨W0,hW0,hb0,hsE,hK,hD,hR⟩:=yG w p s Ab cb As cs A0 c0 A1 c1 A2 c2 A3 c3 A4 c4 A5 c5 A6 c6 kd xa xb xc xn Al l.length cl;rw[hW0];clear hW0;refine(jho _ _ _ _ p s l (hP'.O _ hb0) (hV.O _ hb0) (hLn.O _ hb0)).mono ?_
  rintro e W1 ⟨V1,rfl,ho1,hb1⟩;have fH:=hR.O _ hb1;have lG:=dK.one ho1;go_wp2_with (refine dB (.tmp 6) (.tmp 30) dH V1 rfl fH rfl lG (λw9 dM je=>?_))
  have wC:=dK.keptBy ho1 je fH (by decide) (by decide) (by decide) (by decide) (by decide) (by decide)
  have hB1:=hb0.trans (hb1.mono hb0.size);have hle:=hb0.size;have dN:=Below.gB hB1 je;go_wp2_with fail;exact jo results18 dM rfl rfl (show nN (enter p s l) w _ w9 from⟨V1,rfl,wC.from_ hle,dN⟩)
 have q2:(kd==2)=false:=by simpa using k2
 by_cases k3:kd=3
 ·rw[show act p s ⟨kd,xa,xb,xc,xn,l⟩=zq p s by rw[k3];rfl]
  have q3:(kd==3)=true:=by simpa using k3
  clear k1 k2 k3;go_enter func18,ntmps18
  go_wp2_with fail;obtain⟨W0,hW0,hb0,hsE,hK,hD,hR⟩:=yG w p s Ab cb As cs A0 c0 A1 c1 A2 c2 A3 c3 A4 c4 A5 c5 A6 c6 kd xa xb xc xn Al l.length cl;rw[hW0];clear hW0;refine(jdn _ _ _ p s (hP'.O _ hb0) (hV.O _ hb0)).mono ?_
  rintro e W1 ⟨V1,rfl,ho1,hb1⟩;have fH:=hR.O _ hb1;have lG:=dK.one ho1;go_wp2_with (refine dB (.tmp 6) (.tmp 37) dH V1 rfl fH rfl lG (λw9 dM je=>?_))
  have wC:=dK.keptBy ho1 je fH (by decide) (by decide) (by decide) (by decide) (by decide) (by decide)
  have hB1:=hb0.trans (hb1.mono hb0.size);have hle:=hb0.size;have dN:=Below.gB hB1 je;go_wp2_with fail;exact jo results18 dM rfl rfl (show nN (zq p s) w _ w9 from⟨V1,rfl,wC.from_ hle,dN⟩)
 have q3:(kd==3)=false:=by simpa using k3
 by_cases k4:kd=4
 ·rw[show act p s ⟨kd,xa,xb,xc,xn,l⟩=zJ p s xa by rw[k4];rfl]
  have q4:(kd==4)=true:=by simpa using k4
  clear k1 k2 k3 k4;go_enter func18,ntmps18
  go_wp2_with fail;obtain⟨W0,hW0,hb0,hsE,hK,hD,hR⟩:=yG w p s Ab cb As cs A0 c0 A1 c1 A2 c2 A3 c3 A4 c4 A5 c5 A6 c6 kd xa xb xc xn Al l.length cl;rw[hW0];clear hW0;refine(jfR _ _ _ p s xa (hP'.O _ hb0) (hV.O _ hb0)).mono ?_
  rintro e W1 ⟨V1,rfl,ho1,hb1⟩;have fH:=hR.O _ hb1;have lG:=dK.one ho1;go_wp2_with (refine dB (.tmp 6) (.tmp 46) dH V1 rfl fH rfl lG (λw9 dM je=>?_))
  have wC:=dK.keptBy ho1 je fH (by decide) (by decide) (by decide) (by decide) (by decide) (by decide)
  have hB1:=hb0.trans (hb1.mono hb0.size);have hle:=hb0.size;have dN:=Below.gB hB1 je;go_wp2_with fail;exact jo results18 dM rfl rfl (show nN (zJ p s xa) w _ w9 from⟨V1,rfl,wC.from_ hle,dN⟩)
 have q4:(kd==4)=false:=by simpa using k4
 by_cases k5:kd=5
 ·rw[show act p s ⟨kd,xa,xb,xc,xn,l⟩=pick p s xa xb xc xn by rw[k5];rfl]
  have q5:(kd==5)=true:=by simpa using k5
  clear k1 k2 k3 k4 k5;go_enter func18,ntmps18
  go_wp2_with fail;obtain⟨W0,hW0,hb0,hsE,hK,hD,hR⟩:=yG w p s Ab cb As cs A0 c0 A1 c1 A2 c2 A3 c3 A4 c4 A5 c5 A6 c6 kd xa xb xc xn Al l.length cl;rw[hW0];clear hW0;refine(jkl _ _ _ p s xa xb xc xn (hP'.O _ hb0) (hV.O _ hb0)).mono ?_
  rintro e W1 ⟨V1,rfl,ho1,hb1⟩;have fH:=hR.O _ hb1;have lG:=dK.one ho1;go_wp2_with (refine dB (.tmp 6) (.tmp 61) dH V1 rfl fH rfl lG (λw9 dM je=>?_))
  have wC:=dK.keptBy ho1 je fH (by decide) (by decide) (by decide) (by decide) (by decide) (by decide)
  have hB1:=hb0.trans (hb1.mono hb0.size);have hle:=hb0.size;have dN:=Below.gB hB1 je;go_wp2_with fail;exact jo results18 dM rfl rfl (show nN (pick p s xa xb xc xn) w _ w9 from⟨V1,rfl,wC.from_ hle,dN⟩)
 have q5:(kd==5)=false:=by simpa using k5
 by_cases k6:kd=6
 ·rw[show act p s ⟨kd,xa,xb,xc,xn,l⟩=fill p s by rw[k6];rfl]
  have q6:(kd==6)=true:=by simpa using k6
  clear k1 k2 k3 k4 k5 k6;go_enter func18,ntmps18
  go_wp2_with fail;obtain⟨W0,hW0,hb0,hsE,hK,hD,hR⟩:=yG w p s Ab cb As cs A0 c0 A1 c1 A2 c2 A3 c3 A4 c4 A5 c5 A6 c6 kd xa xb xc xn Al l.length cl;rw[hW0];clear hW0;refine(jkn _ _ _ p s (hP'.O _ hb0) (hV.O _ hb0)).mono ?_
  rintro e W1 ⟨V1,rfl,ho1,hb1⟩;have fH:=hR.O _ hb1;have lG:=dK.one ho1;go_wp2_with (refine dB (.tmp 6) (.tmp 68) dH V1 rfl fH rfl lG (λw9 dM je=>?_))
  have wC:=dK.keptBy ho1 je fH (by decide) (by decide) (by decide) (by decide) (by decide) (by decide)
  have hB1:=hb0.trans (hb1.mono hb0.size);have hle:=hb0.size;have dN:=Below.gB hB1 je;go_wp2_with fail;exact jo results18 dM rfl rfl (show nN (fill p s) w _ w9 from⟨V1,rfl,wC.from_ hle,dN⟩)
 have q6:(kd==6)=false:=by simpa using k6
 by_cases k7:kd=7
 ·rw[show act p s ⟨kd,xa,xb,xc,xn,l⟩=CW p s xa xn by rw[k7];rfl]
  have q7:(kd==7)=true:=by simpa using k7
  clear k1 k2 k3 k4 k5 k6 k7;go_enter func18,ntmps18
  go_wp2_with fail;obtain⟨W0,hW0,hb0,hsE,hK,hD,hR⟩:=yG w p s Ab cb As cs A0 c0 A1 c1 A2 c2 A3 c3 A4 c4 A5 c5 A6 c6 kd xa xb xc xn Al l.length cl;rw[hW0];clear hW0;refine(jhn _ _ _ p s xa xn (hP'.O _ hb0) (hV.O _ hb0) hcap'.O).mono ?_
  rintro e W1 ⟨V1,rfl,ho1,hb1⟩;have fH:=hR.O _ hb1;have lG:=dK.one ho1;go_wp2_with (refine dB (.tmp 6) (.tmp 79) dH V1 rfl fH rfl lG (λw9 dM je=>?_))
  have wC:=dK.keptBy ho1 je fH (by decide) (by decide) (by decide) (by decide) (by decide) (by decide)
  have hB1:=hb0.trans (hb1.mono hb0.size);have hle:=hb0.size;have dN:=Below.gB hB1 je;go_wp2_with fail;exact jo results18 dM rfl rfl (show nN (CW p s xa xn) w _ w9 from⟨V1,rfl,wC.from_ hle,dN⟩)
 have q7:(kd==7)=false:=by simpa using k7
 by_cases k8:kd=8
 ·rw[show act p s ⟨kd,xa,xb,xc,xn,l⟩=count p s xa xb xn by rw[k8];rfl]
  have q8:(kd==8)=true:=by simpa using k8
  clear k1 k2 k3 k4 k5 k6 k7 k8;go_enter func18,ntmps18
  go_wp2_with fail;obtain⟨W0,hW0,hb0,hsE,hK,hD,hR⟩:=yG w p s Ab cb As cs A0 c0 A1 c1 A2 c2 A3 c3 A4 c4 A5 c5 A6 c6 kd xa xb xc xn Al l.length cl;rw[hW0];clear hW0;refine(jhp _ _ _ p s xa xb xn (hP'.O _ hb0) (hV.O _ hb0)).mono ?_
  rintro e W1 ⟨V1,rfl,ho1,hb1⟩;have fH:=hR.O _ hb1;have lG:=dK.one ho1;go_wp2_with (refine dB (.tmp 6) (.tmp 92) dH V1 rfl fH rfl lG (λw9 dM je=>?_))
  have wC:=dK.keptBy ho1 je fH (by decide) (by decide) (by decide) (by decide) (by decide) (by decide)
  have hB1:=hb0.trans (hb1.mono hb0.size);have hle:=hb0.size;have dN:=Below.gB hB1 je;go_wp2_with fail;exact jo results18 dM rfl rfl (show nN (count p s xa xb xn) w _ w9 from⟨V1,rfl,wC.from_ hle,dN⟩)
 have q8:(kd==8)=false:=by simpa using k8
 ·rw[show act p s ⟨kd,xa,xb,xc,xn,l⟩=(jD,8)by unfold act;simp only[k1,k2,k3,k4,k5,k6,k7,k8,uH]]
  clear k1 k2 k3 k4 k5 k6 k7 k8;obtain⟨W0,hW0,hb0,hsE,hK,hD,hR⟩:=yG w p s Ab cb As cs A0 c0 A1 c1 A2 c2 A3 c3 A4 c4 A5 c5 A6 c6 kd xa xb xc xn Al l.length cl;subst hW0;have fH:=hR.O _ (aj _ _);go_enter func18,ntmps18
  go_wp2_with (refine dB (.tmp 6) (.tmp 94) dH dH rfl fH rfl rfl (λw9 dM je=>?_))
  have hle:=hb0.size;have dN:=Below.gB hb0 je;go_wp2_with fail;exact jo results18 dM rfl rfl (jQ rfl dN)
end Wh
namespace Wh
open Go Go.RowKit Go.Shelf Go.Proofs Tryz
attribute [local go_sem] aT jW jm kC
theorem logDoesWalk(w:World)(v vs vd:Value)(p:dA)(s:aJ)(x:yK)(hp:mW w w.heap.size v p)(hv:lK w w.heap.size vs s)(hd:Ur w w.heap.size vd x)(hcap:Si vs):
  Calls prog 8 #[v,vs,vd] w λe w'=>e=.returned (.bool true)/\Below w.heap.size w w':=by
 have hcap':=ah hcap;obtain⟨Ab,cb,As,cs,rfl,hP',hBn,hSz,hlb,hls⟩:=sN hp;obtain⟨A0,c0,A1,c1,A2,c2,A3,c3,A4,c4,A5,c5,A6,c6,rfl,hV,hN,hO,hH,hM,hI,hU,hX,hl0,hl1,hl2,hl3,hl4,hl5,JA⟩:=oW hv;obtain⟨Al,cl,rfl,hDV,hLn,hll⟩:=Rf hd;clear hd hp hv hcap;go_enter func8,ntmps8
 go_wp2_with fail;obtain⟨W0,hW0,hb0,hsE,hK,hD⟩:=Zg w p s Ab cb As cs A0 c0 A1 c1 A2 c2 A3 c3 A4 c4 A5 c5 A6 c6 x.dW x.a x.b x.c x.n Al x.aH.length cl;rw[hW0];clear hW0;obtain⟨d0,d1,d2,d3,d4,d5,dl⟩:=hD.O _ (aj _ _);obtain⟨⟨y0,y1⟩,x0,x1,x2,x3,x4,x5,x6,eP,eU⟩:=hK.O W0 (aj W0.heap.size W0);go_wp2_with fail;clear y0 y1 x0 x1 x2 x3 x4 x5 x6 eP eU;clear d0 d1 d2 d3 d4 d5 dl;refine(jm2 _ _ _ _ p s x (hP'.O _ hb0) (hV.O _ hb0) (hDV.O _ hb0)).mono ?_
 rintro e W1 ⟨V1,rfl,ho1,hb1⟩;have TS:=(ho1).one;have jiv:=vG (W1);go_wp2_with (refine dB (.tmp 7) (.tmp 16) dH V1 rfl jiv rfl TS (λw2 PZ hg2=>?_);refine aW ?_)
 unfold Hid;have S9:=qX hg2;have jee:=PZ.lt;clear TS jiv hg2;have KA:=hb1.trans (S9.mono hb1.size);have hB2:=hb0.trans (KA.mono hb0.size);have hv1:=ah ((ho1.below S9).view0 (QN p s x));have Kz:=ah PZ;clear PZ ho1 hb1 S9;obtain⟨d0,d1,d2,d3,d4,d5,dl⟩:=hD.O _ KA;obtain⟨⟨y0,y1⟩,x0,x1,x2,x3,x4,x5,x6,eP,eU⟩:=hK.O w2 (KA);go_wp2_with fail;clear y0 y1 x0 x1 x2 x3 x4 x5 x6 eP eU;clear d0 d1 d2 d3 d4 d5 dl;refine(jlM _ _ _ _ p s x (hP'.O _ hB2) (hV.O _ hB2) (hDV.O _ hB2) hcap'.O).mono ?_
 rintro e W3 ⟨V3,rfl,ho3,hb3⟩;have jbS:=(ho3).one;have jiu:=vG (W3);go_wp2_with (refine dB (.tmp 9) (.tmp 23) dH V3 rfl jiu rfl jbS (λw4 FY hg4=>?_);refine aW ?_)
 unfold Hid;have jeg:=qX hg4;have Ho:=FY.lt;clear jbS jiu hg4;have h24:=hb3.trans (jeg.mono hb3.size);have h04:=KA.trans (h24.mono KA.size);have hB4:=hb0.trans (h04.mono hb0.size);have hv3:=ah ((ho3.below jeg).view0 (QN p s x));have js8:=ah (hv1.O.grow h24);have WE:=ah FY;have jk8:=ah (Kz.O.below h24 jee);have jrp:=aI jee h24.size;clear FY ho3 hb3 jeg Kz hv1 KA hB2 jee;go_wp2_with fail;refine(Rk _).mono ?_
 rintro e W5 ⟨rfl,h5⟩;have P6:=hB4.trans (h5.mono hB4.size);obtain⟨p0,p1,p2,p3,p4,p5,p6⟩:=(jk8.O.below h5 jrp).cells;obtain⟨q0,q1,q2,q3,q4,q5,q6⟩:=(WE.O.below h5 Ho).cells;have hx1:=js8.O.grow h5;have hx2:=hv3.O.grow h5;go_wp2_with fail;clear p0 p1 p2 p3 p4 p5 p6 q0 q1 q2 q3 q4 q5 q6;refine(JK _ _ _ _ hx1 hx2).mono ?_
 rintro e W6 ⟨rfl,h6⟩;go_wp2_with fail;go_ret
 exact⟨rfl,P6.trans (h6.mono P6.size)⟩
end Wh
namespace Wh
open Go Go.RowKit Go.ChangeShapes Go.WideShapes Go.Deep
theorem cell_lt{w:World}{a:Addr}{v:Value}(h:w.cell? a=some v):a.block<w.heap.size:=by
 by_cases hlt:a.block<w.heap.size
 ·exact hlt
 ·unfold World.cell? at h
  rw[fZ (by omega)]at h
  simp at h
section
variable {H:Type} {en:TypeId×Value→H} {P:Program} {w:World} {aO:Nat} {sp:Nat→Bool} {hd:Bool}
def Rd(en:TypeId×Value->H)(P:Program)(w:World)(aO:Nat)(sp:Nat->Bool)(hd:Bool)(t:TypeId)(cs:List Value):Prop:=
 ∃(n:Nat) (x:DataW H×List MemPlace),DataW.trod en P w aO sp hd n t cs=some x/\∀k∈x.1.weights P t,k<=reachBytes
theorem Rd.int{t:TypeId}{cs:List Value}(ht:P.underlying t=some (.int .i64))(h:Rd en P w aO sp hd t cs):∃n,cs=[.int .i64 n]:=by
 obtain⟨n,x,h,_⟩:=h;obtain⟨m,hm,_⟩:=DataW.trod_int ht h;exact⟨m,hm⟩
theorem Rd.bool{t:TypeId}{cs:List Value}(ht:P.underlying t=some .bool)(h:Rd en P w aO sp hd t cs):∃b,cs=[.bool b]:=by
 obtain⟨n,x,h,_⟩:=h;obtain⟨m,hm,_⟩:=DataW.trod_bool ht h;exact⟨m,hm⟩
theorem Rd.fields{t:TypeId}{fs:Array Field}{cs:List Value}(hs:P.underlying t=some (.struct fs))(hone:oneCellFields P fs=true)(hC:P.cellsOf t=fs.size)(h:Rd en P w aO sp hd t cs):
  cs.length=fs.size/\∀(j:Nat) (f:Field),fs[j]?=some f->∃v,cs[j]?=some v/\Rd en P w aO sp hd f.type [v]:=by
 obtain⟨n,x,h,hw⟩:=h;obtain⟨xs,m,_,hx,kD,hxl,hf⟩:=DataW.trod_struct hs h;rw[hC]at kD
 refine⟨kD,λj f hj=>?_⟩
 have hjl:j<fs.size:=(bJ.1 hj).1
 obtain⟨ho,hk⟩:=hone_of hone j f hj;have h1:=hf j f hj;rw[ho,hk,jE (by omega)]at h1
 have hys:xs[j]?=some (xs[j]'(by omega)):=bf (by omega)
 refine⟨cs[j]'(by omega),bf (by omega),m,xs[j]'(by omega),by rw[<- hys,<- h1];rfl,λk hkm=>hw k ?_⟩
 rw[hx];simp only[DataW.weights,hs];refine Af (j:=j) (t:=f.type) (d:=(xs[j]'(by omega)).1) ?_ ?_ k hkm
 ·rw[iZ,Bq,hj];rfl
 ·rw[iZ,hys];rfl
theorem MV{e:TypeId}:∀ {ds:List (DataW H)} {j:Nat} {d:DataW H},ds[j]?=some d->∀n∈d.weights P e,n∈DataW.weightsAll P e ds
 |d0::ds,0,d,hd,n,hn=>by
  simp only[oN,mZ]at hd
  subst hd;simp only[DataW.weightsAll,jT];exact Or.inl hn
 |d0::ds,j+1,d,hd,n,hn=>by
  simp only[vw]at hd
  simp only[DataW.weightsAll,jT];exact Or.inr (MV hd n hn)
 |[],_,_,hd,_,_=>by simp at hd
theorem Rd.slice{t e:TypeId}{k:Nat}{cs:List Value}(ht:P.underlying t=some (.slice e))(hC:P.cellsOf e=k)(hB:0<P.bytesOf e)(h:Rd en P w aO sp hd t cs):
  ∃(A:Option Addr) (len c:Nat),cs=[.slice A len c]/\len<=140737488355232/\
   ∀i,i<len->∃cs',cs'.length=k/\Rd en P w aO sp hd e cs'/\∀j v,cs'[j]?=some v->okA A/\jd A<w.heap.size/\w.cell? ⟨jd A,ou A+(i*k+j),none⟩=some v:=by
 obtain⟨n,x,h,hw⟩:=h;rcases open_slice ht h with⟨rfl,_⟩|⟨a,len,cap,m,n',D,Pl,rfl,_,hl,_,hm,hx,hi⟩
 ·exact⟨none,0,0,rfl,by omega,λi hi=>by omega⟩
 ·have hlm:len<=m:=by rw[hm];split<;>omega
  have hreach:(len+(m - len))*P.bytesOf e<=reachBytes:=hw _ (by rw[hx];simp[DataW.weights,ht])
  have hspot:0<len->0<k->a.spot=none:=λh1 h2=>by
   obtain⟨cs',hc,_⟩:=hi 0 (by omega)
   rw[hC]at hc
   obtain⟨_,hcl,hat⟩:=World.cells?_some hc
   have yu:=hat 0 h2;rw[bf (by omega),add_add]at yu
   have:=World.cell?_spot yu
   simpa[Addr.add]using this
  refine⟨some a,len,cap,rfl,?_,λi hi'=>?_⟩
  ·have h1:len*1<=(len+(m - len))*P.bytesOf e:=uV (by omega) hB
   simp only[reachBytes]at hreach
   omega
  ·obtain⟨cs',hc,ht'⟩:=hi i (by omega)
   rw[hC]at hc
   obtain⟨_,hcl,hat⟩:=World.cells?_some hc
   refine⟨cs',hcl,⟨n',_,ht',λq hq=>hw q ?_⟩,λj v hj=>?_⟩
   ·rw[hx];simp only[DataW.weights,ht,jM,jT];refine .inr (.inl (MV (j:=i) (d:=D i) ?_ q hq))
    rw[iZ,nD hi'];rfl
   ·have hjl:j<k:=by rw[<- hcl];exact(eF.1 hj).1
    have yu:=hat j hjl;rw[hj,add_add]at yu
    obtain⟨b,off,spot⟩:=a;obtain rfl:spot=none:=hspot (by omega) (by omega)
    rw[gU]at yu
    exact⟨VG _ _,cell_lt (a:=⟨b,off+(i*k+j),none⟩) yu,yu⟩
theorem Rd.sl{α:Type}{enc:α->List Value}{k:Nat}{t e:TypeId}{cs:List Value}[Inhabited α](ht:P.underlying t=some (.slice e))(hC:P.cellsOf e=k)(hB:0<P.bytesOf e)(hk:∀x,(enc x).length=k)(h0:0<k)
  (hel:∀cs',cs'.length=k->Rd en P w aO sp hd e cs'->∃x:α,cs'=enc x) (h:Rd en P w aO sp hd t cs):∃v l,cs=[v]/\Sl enc w w.heap.size v l:=by
 obtain⟨A,len,c,rfl,kD,hi⟩:=h.slice ht hC hB;obtain⟨X,hX⟩:=choose_lt (α:=α) (n:=len) (p:=λi x=>∀j v,(enc x)[j]?=some v->okA A/\jd A<w.heap.size/\w.cell? ⟨jd A,ou A+(i*k+j),none⟩=some v) (λi hil=>by
  obtain⟨cs',h1,h2,h3⟩:=hi i hil;obtain⟨x,rfl⟩:=hel cs' h1 h2;exact⟨x,h3⟩)
 refine⟨_,(List.range len).map X,rfl,A,c,by simp,by simpa using kD,λhn=>?_⟩
 have yu:∀j v,(((List.range len).map X).flatMap enc)[j]?=some v->okA A/\jd A<w.heap.size/\w.cell? ⟨jd A,ou A+j,none⟩=some v:=λj v hj=>by
  have hjl:j<len*k:=by
   have:=(eF.1 hj).1
   rw[kL enc k hk]at this
   simpa using this
  have hq:j / k<len:=(Bd h0).2 hjl;have e1:j / k*k+j%k=j:=by rw[Nat.mul_comm];exact Nat.div_add_mod j k
  have e2:=KZ enc k hk ((List.range len).map X) (j / k) (j%k) (X (j / k)) (by rw[iZ,nD hq];rfl) (Nat.mod_lt _ h0)
  rw[e1,hj]at e2
  have:=hX (j / k) hq (j%k) v e2.symm;rwa [e1]at this
 have hlp:0<(((List.range len).map X).flatMap enc).length:=CG.2 hn;obtain⟨h1,h2,_⟩:=yu 0 _ (bf hlp)
 exact⟨h1,h2,λj v hj=>(yu j v hj).2.2⟩
theorem Rd.cells{α:Type}[Inhabited α]{k:Nat}{t e:TypeId}{cs:List Value}{enc:Value->α->List Value}{Q:Value->α->Prop}(ht:P.underlying t=some (.slice e))(hC:P.cellsOf e=k)(hB:0<P.bytesOf e)(hk:∀v x,(enc v x).length=k)(h0:0<k)
  (hel:∀cs',cs'.length=k->Rd en P w aO sp hd e cs'->∃(v:Value) (x:α),cs'=enc v x/\Q v x) (h:Rd en P w aO sp hd t cs):
  ∃(A:Option Addr) (c:Nat) (l:List α) (vs:List Value),cs=[.slice A l.length c]/\l.length<=140737488355232/\vs.length=l.length/\At w w.heap.size A ((l.zip vs).flatMap λx=>enc x.2 x.1)/\
   ∀(i:Nat) (x:α),l[i]?=some x->∃u,vs[i]?=some u/\Q u x:=by
 obtain⟨A,len,c,rfl,kD,hi⟩:=h.slice ht hC hB;obtain⟨X,hX⟩:=choose_lt (α:=α×Value) (n:=len) (p:=λi x=>Q x.2 x.1/\∀j v,(enc x.2 x.1)[j]?=some v->okA A/\jd A<w.heap.size/\w.cell? ⟨jd A,ou A+(i*k+j),none⟩=some v) (λi hil=>by
  obtain⟨cs',h1,h2,h3⟩:=hi i hil;obtain⟨v,x,rfl,hq⟩:=hel cs' h1 h2;exact⟨(x,v),hq,h3⟩)
 refine⟨A,c,(List.range len).map (λi=>(X i).1),(List.range len).map (λi=>(X i).2),by simp,by simpa using kD,by simp,?_,λi x hix=>?_⟩
 ·have hz:((List.range len).map (λi=>(X i).1)).zip ((List.range len).map (λi=>(X i).2))=(List.range len).map X:=by
   rw[List.zip_map']
  rw[hz];intro hn;have yu:∀j v,(((List.range len).map X).flatMap λx=>enc x.2 x.1)[j]?=some v->okA A/\jd A<w.heap.size/\w.cell? ⟨jd A,ou A+j,none⟩=some v:=λj v hj=>by
   have hjl:j<len*k:=by
    have:=(eF.1 hj).1
    rw[kL (λx:α×Value=>enc x.2 x.1) k (λx=>hk _ _)]at this
    simpa using this
   have hq:j / k<len:=(Bd h0).2 hjl;have e1:j / k*k+j%k=j:=by rw[Nat.mul_comm];exact Nat.div_add_mod j k
   have e2:=KZ (λx:α×Value=>enc x.2 x.1) k (λx=>hk _ _) ((List.range len).map X) (j / k) (j%k) (X (j / k)) (by rw[iZ,nD hq];rfl) (Nat.mod_lt _ h0)
   rw[e1,hj]at e2
   have:=(hX (j / k) hq).2 (j%k) v e2.symm;rwa [e1]at this
  have hlp:0<(((List.range len).map X).flatMap λx=>enc x.2 x.1).length:=CG.2 hn
  obtain⟨h1,h2,_⟩:=yu 0 _ (bf hlp)
  exact⟨h1,h2,λj v hj=>(yu j v hj).2.2⟩
 ·rw[iZ]at hix
  obtain⟨i',hi',rfl⟩:=Aa.1 hix;have hil:i<len:=by
   have:=(eF.1 hi').1
   simpa using this
  rw[nD hil]at hi'
  obtain rfl:=dQ hi';exact⟨(X i).2,by rw[iZ,nD hil];rfl,(hX i hil).1⟩
end
end Wh
namespace Wh
open Go Go.RowKit Go.ChangeShapes Go.WideShapes Go.Deep Go.Proofs Tryz
instance:Inhabited Bin:=⟨⟨false,0,0,0⟩⟩
instance:Inhabited dZ:=⟨⟨0,0,0,0⟩⟩
def structFields(P:Program)(t:TypeId):Array Field:=match P.underlying t with
 |some (.struct fs)=>fs
 |_=>#[]
theorem EU{P:Program}{t:TypeId}(h:(match P.underlying t with|some (.struct _)=>true|_=>false)=true):P.underlying t=some (.struct (structFields P t)):=by
 unfold structFields;split at h
 ·rename_i h';rw[h']
 ·cases h
theorem JF:prog.underlying 3=some (.int .i64):=by kernel_rfl
theorem jmB:prog.underlying 4=some .bool:=by kernel_rfl
theorem jmA:prog.underlying 23=some (.slice 3):=by kernel_rfl
theorem jmz:prog.underlying 26=some (.slice 23):=by kernel_rfl
theorem jmC:prog.underlying 22=some (.slice 125):=by kernel_rfl
theorem jsm:prog.cellsOf 3=1:=by kernel_rfl
theorem jow:prog.cellsOf 23=1:=by kernel_rfl
theorem jsw:0<prog.bytesOf 3:=kQ (by kernel_rfl)
theorem joB:0<prog.bytesOf 23:=kQ (by kernel_rfl)
theorem jsx:0<prog.bytesOf 125:=kQ (by kernel_rfl)
theorem jeQ:prog.underlying 125=some (.struct (structFields prog 125)):=EU (by kernel_rfl)
theorem jeZ:oneCellFields prog (structFields prog 125)=true:=by kernel_rfl
theorem je1:(structFields prog 125).size=4:=by kernel_rfl
theorem jcH:prog.cellsOf 125=4:=by kernel_rfl
theorem jfq:(structFields prog 125).toList.map (·.type)=[4,3,3,3]:=by kernel_rfl
theorem jdh:prog.underlying 25=some (.struct (structFields prog 25)):=EU (by kernel_rfl)
theorem jhG:oneCellFields prog (structFields prog 25)=true:=by kernel_rfl
theorem jhI:(structFields prog 25).size=2:=by kernel_rfl
theorem jeC:prog.cellsOf 25=2:=by kernel_rfl
theorem jjq:(structFields prog 25).toList.map (·.type)=[22,23]:=by kernel_rfl
section
variable {H:Type} {en:TypeId×Value→H} {w:World} {aO:Nat} {sp:Nat→Bool} {hd:Bool}
theorem Rd.field{P:Program}{t:TypeId}{fs:Array Field}{cs:List Value}{ts:List TypeId}(hs:P.underlying t=some (.struct fs))(hone:oneCellFields P fs=true)(hC:P.cellsOf t=fs.size)(hf:fs.toList.map (·.type)=ts)
  (h:Rd en P w aO sp hd t cs) (j:Nat) (t':TypeId) (hj:ts[j]?=some t'):∃v,cs[j]?=some v/\Rd en P w aO sp hd t' [v]:=by
 subst hf;rw[iZ,Bq]at hj
 obtain⟨f,hf,rfl⟩:=Aa.1 hj;exact(h.fields hs hone hC).2 j f hf
abbrev Rt(en:TypeId×Value->H)(w:World)(aO:Nat)(sp:Nat->Bool)(hd:Bool)(t:TypeId)(cs:List Value):Prop:=Rd en prog w aO sp hd t cs
theorem Rt.ints{cs:List Value}(h:Rt en w aO sp hd 23 cs):∃v l,cs=[v]/\Sl jJ w w.heap.size v l:=
 Rd.sl jmA jsm jsw (λ_=>rfl) (by decide) (λcs' _ h=>h.int JF) h
theorem Rt.rows{cs:List Value}(h:Rt en w aO sp hd 26 cs):∃v l,cs=[v]/\FW jJ w w.heap.size v l:=by
 obtain⟨A,c,l,vs,rfl,h1,h2,h3,h4⟩:=Rd.cells (α:=List Int) (k:=1) (enc:=λv _=>[v]) (Q:=λv x=>Sl jJ w w.heap.size v x) jmz jow joB (λ_ _=>rfl) (by decide) (λcs' _ h=>by
  obtain⟨v,l,rfl,hs⟩:=Rt.ints h;exact⟨v,l,rfl,hs⟩) h
 refine⟨_,l,rfl,A,c,vs,rfl,h1,h2,?_,h4⟩
 have:((l.zip vs).flatMap λx=>[x.2])=vs:=by
  rw[<- List.map_eq_flatMap,List.map_snd_zip];omega
 rwa [this]at h3
theorem Rt.bin{cs:List Value}(hl:cs.length=4)(h:Rt en w aO sp hd 125 cs):∃b,cs=PG b:=by
 match cs,hl with
 |[v0,v1,v2,v3],_=>
  obtain⟨x0,e0,r0⟩:=h.field jeQ jeZ (jcH.trans je1.symm) jfq 0 _ rfl;obtain⟨x1,e1,r1⟩:=h.field jeQ jeZ (jcH.trans je1.symm) jfq 1 _ rfl;obtain⟨x2,e2,r2⟩:=h.field jeQ jeZ (jcH.trans je1.symm) jfq 2 _ rfl;obtain⟨x3,e3,r3⟩:=h.field jeQ jeZ (jcH.trans je1.symm) jfq 3 _ rfl;obtain rfl:=dQ e0;obtain rfl:=dQ e1;obtain rfl:=dQ e2;obtain rfl:=dQ e3;obtain⟨b0,q0⟩:=r0.bool jmB;obtain⟨b1,q1⟩:=r1.int JF;obtain⟨b2,q2⟩:=r2.int JF;obtain⟨b3,q3⟩:=r3.int JF;obtain rfl:=(fM q0).1;obtain rfl:=(fM q1).1;obtain rfl:=(fM q2).1;obtain rfl:=(fM q3).1;exact⟨⟨b0,b1,b2,b3⟩,rfl⟩
theorem Rt.bQ{cs:List Value}(h:Rt en w aO sp hd 22 cs):∃v l,cs=[v]/\Sl PG w w.heap.size v l:=
 Rd.sl jmC jcH jsx (λ_=>rfl) (by decide) (λ_ hl h=>Rt.bin hl h) h
theorem Rt.plan{cs:List Value}(hl:cs.length=2)(h:Rt en w aO sp hd 25 cs):∃v0 v1 p,cs=[v0,v1]/\mW w w.heap.size (.agg #[v0,v1]) p:=by
 match cs,hl with
 |[v0,v1],_=>
  obtain⟨x0,e0,r0⟩:=h.field jdh jhG (jeC.trans jhI.symm) jjq 0 _ rfl;obtain⟨x1,e1,r1⟩:=h.field jdh jhG (jeC.trans jhI.symm) jjq 1 _ rfl;obtain rfl:=dQ e0;obtain rfl:=dQ e1;obtain⟨_,l0,q0,hs0⟩:=Rt.bQ r0;obtain⟨_,l1,q1,hs1⟩:=Rt.ints r1;obtain rfl:=(fM q0).1;obtain rfl:=(fM q1).1;exact⟨_,_,⟨l0,l1⟩,rfl,_,_,rfl,hs0,hs1⟩
theorem rd_of{P:Program}{ts:List TypeId}{ds:List (DataW H)}{j:Nat}{t:TypeId}{v:Value}{d:DataW H}{ps:List MemPlace}(hsz:(DataW.weightsEach P ts ds).all (·<=reachBytes)=true)(ht:ts[j]?=some t)(hds:ds[j]?=some d)
  (h:DataW.Trod en P w aO sp hd t v d ps):Rd en P w aO sp hd t v.cells.toList:=by
 obtain⟨n,hn⟩:=h;exact⟨n,_,hn,λk hk=>by simpa using aX.1 hsz _ (Af ht hds k hk)⟩
theorem plan_of{b0:Nat}{r:Reach}{v:Value}(hv:Value.okWide prog w r b0 25 v)(h:Rt en w aO sp hd 25 v.cells.toList):∃p,mW w w.heap.size v p:=by
 obtain⟨cs,rfl,hsz⟩:=okWide_struct jdh hv;obtain⟨l⟩:=cs;obtain⟨v0,v1,p,e,hp⟩:=Rt.plan (by simpa[Value.cells]using hsz.trans jeC) h
 have e':l=[v0,v1]:=by simpa[Value.cells]using e
 subst e';exact⟨p,hp⟩
end
end Wh
namespace Wh
open Go Go.RowKit Go.ChangeShapes Go.WideShapes Go.Deep Go.Proofs Tryz
theorem jka:prog.underlying 28=some (.slice 46):=by kernel_rfl
theorem joC:0<prog.bytesOf 46:=kQ (by kernel_rfl)
theorem jmJ:prog.underlying 46=some (.struct (structFields prog 46)):=EU (by kernel_rfl)
theorem jmV:oneCellFields prog (structFields prog 46)=true:=by kernel_rfl
theorem jmY:(structFields prog 46).size=4:=by kernel_rfl
theorem jjH:prog.cellsOf 46=4:=by kernel_rfl
theorem jos:(structFields prog 46).toList.map (·.type)=[3,3,3,3]:=by kernel_rfl
section
variable {H:Type} {en:TypeId×Value→H} {w:World} {aO:Nat} {sp:Nat→Bool} {hd:Bool}
theorem Rt.Tf{t:TypeId}(s_t:prog.underlying t=some (.struct (structFields prog t)))(o_t:oneCellFields prog (structFields prog t)=true)(c_t:prog.cellsOf t=(structFields prog t).size)
  (f_t:(structFields prog t).toList.map (·.type)=[3,3,3,3]) {cs:List Value} (hl:cs.length=4) (h:Rt en w aO sp hd t cs):∃a b c d:Int,cs=[.int .i64 a,.int .i64 b,.int .i64 c,.int .i64 d]:=by
 match cs,hl with
 |[v0,v1,v2,v3],_=>
  obtain⟨x0,e0,r0⟩:=h.field s_t o_t c_t f_t 0 _ rfl;obtain⟨x1,e1,r1⟩:=h.field s_t o_t c_t f_t 1 _ rfl;obtain⟨x2,e2,r2⟩:=h.field s_t o_t c_t f_t 2 _ rfl;obtain⟨x3,e3,r3⟩:=h.field s_t o_t c_t f_t 3 _ rfl;obtain rfl:=dQ e0;obtain rfl:=dQ e1;obtain rfl:=dQ e2;obtain rfl:=dQ e3;obtain⟨b0,q0⟩:=r0.int JF;obtain⟨b1,q1⟩:=r1.int JF;obtain⟨b2,q2⟩:=r2.int JF;obtain⟨b3,q3⟩:=r3.int JF;obtain rfl:=(fM q0).1;obtain rfl:=(fM q1).1;obtain rfl:=(fM q2).1;obtain rfl:=(fM q3).1;exact⟨b0,b1,b2,b3,rfl⟩
theorem Rt.hold{cs:List Value}(hl:cs.length=4)(h:Rt en w aO sp hd 46 cs):∃x,cs=ig x:=by
 obtain⟨a,b,c,d,rfl⟩:=Rt.Tf jmJ jmV (jjH.trans jmY.symm) jos hl h;exact⟨⟨a,b,c,d⟩,rfl⟩
theorem Rt.aA{cs:List Value}(h:Rt en w aO sp hd 28 cs):∃v l,cs=[v]/\Sl ig w w.heap.size v l:=
 Rd.sl jka jjH joC (λ_=>rfl) (by decide) (λ_ hl h=>Rt.hold hl h) h
end
end Wh
namespace Wh
open Go Go.RowKit Go.ChangeShapes Go.WideShapes Go.Deep Go.Proofs Tryz
instance:Inhabited Line:=⟨Lc⟩
instance:Inhabited Move:=⟨Ox⟩
instance:Inhabited Order:=⟨Gw⟩
theorem jj9:prog.underlying 32=some (.slice 44):=by kernel_rfl
theorem jeL:prog.underlying 29=some (.slice 48):=by kernel_rfl
theorem jgS:prog.underlying 27=some (.slice 42):=by kernel_rfl
theorem joA:0<prog.bytesOf 44:=kQ (by kernel_rfl)
theorem jmI:prog.underlying 44=some (.struct (structFields prog 44)):=EU (by kernel_rfl)
theorem jmU:oneCellFields prog (structFields prog 44)=true:=by kernel_rfl
theorem jmX:(structFields prog 44).size=4:=by kernel_rfl
theorem jjG:prog.cellsOf 44=4:=by kernel_rfl
theorem jor:(structFields prog 44).toList.map (·.type)=[3,3,3,3]:=by kernel_rfl
theorem joz:0<prog.bytesOf 48:=kQ (by kernel_rfl)
theorem jmH:prog.underlying 48=some (.struct (structFields prog 48)):=EU (by kernel_rfl)
theorem jmT:oneCellFields prog (structFields prog 48)=true:=by kernel_rfl
theorem jmW:(structFields prog 48).size=4:=by kernel_rfl
theorem jjF:prog.cellsOf 48=4:=by kernel_rfl
theorem joq:(structFields prog 48).toList.map (·.type)=[3,3,3,3]:=by kernel_rfl
theorem jlE:0<prog.bytesOf 42:=kQ (by kernel_rfl)
theorem jeP:prog.underlying 42=some (.struct (structFields prog 42)):=EU (by kernel_rfl)
theorem jeY:oneCellFields prog (structFields prog 42)=true:=by kernel_rfl
theorem je0:(structFields prog 42).size=2:=by kernel_rfl
theorem jaz:prog.cellsOf 42=2:=by kernel_rfl
theorem jfp:(structFields prog 42).toList.map (·.type)=[3,32]:=by kernel_rfl
theorem Ik:prog.underlying 31=some (.struct (structFields prog 31)):=EU (by kernel_rfl)
theorem JM:oneCellFields prog (structFields prog 31)=true:=by kernel_rfl
theorem JR:(structFields prog 31).size=7:=by kernel_rfl
theorem Iy:prog.cellsOf 31=7:=by kernel_rfl
theorem J6:(structFields prog 31).toList.map (·.type)=[26,27,28,29,23,23,23]:=by kernel_rfl
section
variable {H:Type} {en:TypeId×Value→H} {w:World} {aO:Nat} {sp:Nat→Bool} {hd:Bool}
theorem Rt.aG{cs:List Value}(hl:cs.length=4)(h:Rt en w aO sp hd 44 cs):∃x,cs=kP x:=by
 obtain⟨a,b,c,d,rfl⟩:=Rt.Tf jmI jmU (jjG.trans jmX.symm) jor hl h;exact⟨⟨a,b,c,d⟩,rfl⟩
theorem Rt.move{cs:List Value}(hl:cs.length=4)(h:Rt en w aO sp hd 48 cs):∃x,cs=nP x:=by
 obtain⟨a,b,c,d,rfl⟩:=Rt.Tf jmH jmT (jjF.trans jmW.symm) joq hl h;exact⟨⟨a,b,c,d⟩,rfl⟩
theorem Rt.aH{cs:List Value}(h:Rt en w aO sp hd 32 cs):∃v l,cs=[v]/\Sl kP w w.heap.size v l:=
 Rd.sl jj9 jjG joA (λ_=>rfl) (by decide) (λ_ hl h=>Rt.aG hl h) h
theorem Rt.aF{cs:List Value}(h:Rt en w aO sp hd 29 cs):∃v l,cs=[v]/\Sl nP w w.heap.size v l:=
 Rd.sl jeL jjF joz (λ_=>rfl) (by decide) (λ_ hl h=>Rt.move hl h) h
theorem Rt.aC{cs:List Value}(hl:cs.length=2)(h:Rt en w aO sp hd 42 cs):∃(v:Value) (x:Order),cs=[.int .i64 x.dW,v]/\Sl kP w w.heap.size v x.aH:=by
 match cs,hl with
 |[v0,v1],_=>
  obtain⟨x0,e0,r0⟩:=h.field jeP jeY (jaz.trans je0.symm) jfp 0 _ rfl;obtain⟨x1,e1,r1⟩:=h.field jeP jeY (jaz.trans je0.symm) jfp 1 _ rfl;obtain rfl:=dQ e0;obtain rfl:=dQ e1;obtain⟨b0,q0⟩:=r0.int JF;obtain⟨_,l1,q1,hs1⟩:=Rt.aH r1;obtain rfl:=(fM q0).1;obtain rfl:=(fM q1).1;exact⟨_,⟨b0,l1⟩,rfl,hs1⟩
theorem Rt.ak{cs:List Value}(h:Rt en w aO sp hd 27 cs):∃v l,cs=[v]/\nJ w w.heap.size v l:=by
 obtain⟨A,c,l,vs,rfl,h1,h2,h3,h4⟩:=Rd.cells (α:=Order) (k:=2) (enc:=λv x=>[.int .i64 x.dW,v]) (Q:=λv x=>Sl kP w w.heap.size v x.aH) jgS jaz jlE (λ_ _=>rfl) (by decide) (λcs' hl h=>Rt.aC hl h) h
 exact⟨_,l,rfl,A,c,vs,rfl,h1,h2,h3,h4⟩
theorem Rt.state{cs:List Value}(hl:cs.length=7)(h:Rt en w aO sp hd 31 cs):∃s,lK w w.heap.size (.agg cs.toArray) s:=by
 match cs,hl with
 |[v0,v1,v2,v3,v4,v5,v6],_=>
  obtain⟨x0,e0,r0⟩:=h.field Ik JM (Iy.trans JR.symm) J6 0 _ rfl;obtain⟨x1,e1,r1⟩:=h.field Ik JM (Iy.trans JR.symm) J6 1 _ rfl;obtain⟨x2,e2,r2⟩:=h.field Ik JM (Iy.trans JR.symm) J6 2 _ rfl;obtain⟨x3,e3,r3⟩:=h.field Ik JM (Iy.trans JR.symm) J6 3 _ rfl;obtain⟨x4,e4,r4⟩:=h.field Ik JM (Iy.trans JR.symm) J6 4 _ rfl;obtain⟨x5,e5,r5⟩:=h.field Ik JM (Iy.trans JR.symm) J6 5 _ rfl;obtain⟨x6,e6,r6⟩:=h.field Ik JM (Iy.trans JR.symm) J6 6 _ rfl;obtain rfl:=dQ e0;obtain rfl:=dQ e1;obtain rfl:=dQ e2;obtain rfl:=dQ e3;obtain rfl:=dQ e4;obtain rfl:=dQ e5;obtain rfl:=dQ e6;obtain⟨_,l0,q0,hs0⟩:=Rt.rows r0;obtain⟨_,l1,q1,hs1⟩:=Rt.ak r1;obtain⟨_,l2,q2,hs2⟩:=Rt.aA r2;obtain⟨_,l3,q3,hs3⟩:=Rt.aF r3;obtain⟨_,l4,q4,hs4⟩:=Rt.ints r4;obtain⟨_,l5,q5,hs5⟩:=Rt.ints r5;obtain⟨_,l6,q6,hs6⟩:=Rt.ints r6;obtain rfl:=(fM q0).1;obtain rfl:=(fM q1).1;obtain rfl:=(fM q2).1;obtain rfl:=(fM q3).1;obtain rfl:=(fM q4).1;obtain rfl:=(fM q5).1;obtain rfl:=(fM q6).1;exact⟨⟨l0,l1,l2,l3,l4,l5,l6⟩,_,_,_,_,_,_,_,rfl,hs0,hs1,hs2,hs3,hs4,hs5,hs6⟩
end
end Wh
namespace Wh
open Go Go.RowKit Go.ChangeShapes Go.WideShapes Go.Deep Go.Proofs Tryz
section
variable {H:Type} {en:TypeId×Value→H} {w:World} {aO:Nat} {sp:Nat→Bool} {hd:Bool}
theorem Rd.cap{P:Program}{t e:TypeId}{cs:List Value}(ht:P.underlying t=some (.slice e))(h:Rd en P w aO sp hd t cs):∃(A:Option Addr) (len c:Nat),cs=[.slice A len c]/\len<=c:=by
 obtain⟨n,x,h,hw⟩:=h;rcases open_slice ht h with⟨rfl,_⟩|⟨a,len,cap,m,n',D,Pl,rfl,_,hl,_⟩
 ·exact⟨none,0,0,rfl,au _⟩
 ·exact⟨some a,len,cap,rfl,hl⟩
theorem Rt.jhJ{cs:List Value}(hl:cs.length=7)(h:Rt en w aO sp hd 31 cs):Si (.agg cs.toArray):=by
 match cs,hl with
 |[v0,v1,v2,v3,v4,v5,v6],_=>
  obtain⟨x3,e3,r3⟩:=h.field Ik JM (Iy.trans JR.symm) J6 3 _ rfl;obtain rfl:=dQ e3;obtain⟨A,n,c,q,hc⟩:=Rd.cap jeL r3;obtain rfl:=(fM q).1;exact⟨_,_,_,A,n,c,_,_,_,rfl,hc⟩
theorem state_cap_of{b0:Nat}{r:Reach}{v:Value}(hv:Value.okWide prog w r b0 31 v)(h:Rt en w aO sp hd 31 v.cells.toList):∃s,lK w w.heap.size v s/\Si v:=by
 obtain⟨cs,rfl,hsz⟩:=okWide_struct Ik hv;have hl:cs.toList.length=7:=by simpa[Value.cells]using hsz.trans Iy
 have h':Rt en w aO sp hd 31 cs.toList:=by simpa[Value.cells]using h
 obtain⟨s,hs⟩:=Rt.state hl h';exact⟨s,by simpa[Value.cells]using hs,by simpa using Rt.jhJ hl h'⟩
end
end Wh
namespace Wh
open Go Go.RowKit Go.ChangeShapes Go.WideShapes Go.Deep Go.Proofs Tryz
theorem Vl:prog.underlying 34=some (.struct (structFields prog 34)):=EU (by kernel_rfl)
theorem YF:oneCellFields prog (structFields prog 34)=true:=by kernel_rfl
theorem YI:(structFields prog 34).size=6:=by kernel_rfl
theorem Xn:prog.cellsOf 34=6:=by kernel_rfl
theorem Y5:(structFields prog 34).toList.map (·.type)=[3,3,3,3,3,32]:=by kernel_rfl
section
variable {H:Type} {en:TypeId×Value→H} {w:World} {aO:Nat} {sp:Nat→Bool} {hd:Bool}
theorem Rt.act{cs:List Value}(hl:cs.length=6)(h:Rt en w aO sp hd 34 cs):∃x,Ur w w.heap.size (.agg cs.toArray) x:=by
 match cs,hl with
 |[v0,v1,v2,v3,v4,v5],_=>
  obtain⟨x0,e0,r0⟩:=h.field Vl YF (Xn.trans YI.symm) Y5 0 _ rfl;obtain⟨x1,e1,r1⟩:=h.field Vl YF (Xn.trans YI.symm) Y5 1 _ rfl;obtain⟨x2,e2,r2⟩:=h.field Vl YF (Xn.trans YI.symm) Y5 2 _ rfl;obtain⟨x3,e3,r3⟩:=h.field Vl YF (Xn.trans YI.symm) Y5 3 _ rfl;obtain⟨x4,e4,r4⟩:=h.field Vl YF (Xn.trans YI.symm) Y5 4 _ rfl;obtain⟨x5,e5,r5⟩:=h.field Vl YF (Xn.trans YI.symm) Y5 5 _ rfl;obtain rfl:=dQ e0;obtain rfl:=dQ e1;obtain rfl:=dQ e2;obtain rfl:=dQ e3;obtain rfl:=dQ e4;obtain rfl:=dQ e5;obtain⟨b0,q0⟩:=r0.int JF;obtain⟨b1,q1⟩:=r1.int JF;obtain⟨b2,q2⟩:=r2.int JF;obtain⟨b3,q3⟩:=r3.int JF;obtain⟨b4,q4⟩:=r4.int JF;obtain⟨_,l5,q5,hs5⟩:=Rt.aH r5;obtain rfl:=(fM q0).1;obtain rfl:=(fM q1).1;obtain rfl:=(fM q2).1;obtain rfl:=(fM q3).1;obtain rfl:=(fM q4).1;obtain rfl:=(fM q5).1;exact⟨⟨b0,b1,b2,b3,b4,l5⟩,_,rfl,hs5⟩
theorem act_of{b0:Nat}{r:Reach}{v:Value}(hv:Value.okWide prog w r b0 34 v)(h:Rt en w aO sp hd 34 v.cells.toList):∃x,Ur w w.heap.size v x:=by
 obtain⟨cs,rfl,hsz⟩:=okWide_struct Vl hv;obtain⟨x,hx⟩:=Rt.act (by simpa[Value.cells]using hsz.trans Xn) h
 exact⟨x,by simpa[Value.cells]using hx⟩
end
end Wh
namespace Wh
open Go Go.RowKit Go.Shelf Go.Proofs Tryz
attribute [local go_sem] aT jW jm kC
theorem XM(p:dA)(t:List Nat):small (sS p t).1=true:=by
 unfold sS;by_cases h1:gQ p=0
 ·rw[ay (λhn=>hn h1)]
  split
  ·show small jD=true;decide
  ·exact OB (MK (Uo h1))
 ·rw[aB h1];show small jD=true;decide
end Wh
