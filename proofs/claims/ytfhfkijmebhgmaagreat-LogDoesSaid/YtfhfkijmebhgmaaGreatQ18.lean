/- Texts of the claim, joined. -/
import Derived.Test.YtfhfkijmebhgmaaGreatQ17
set_option maxHeartbeats 20000000
set_option maxRecDepth 100000
namespace Wh
open Go Go.RowKit Go.Shelf Go.Proofs Tryz
attribute [local go_sem] au
section
variable {p:Plan} {s:State} {b g n:Int}
theorem NW (h:checkState p s≠0):receive p s b g n=(dJ,checkState p s):=by unfold receive;rw [ak h]
theorem rD (h:checkState p s=0) (h2:(fD p b&&bU p g&&within n 1 200)=false):receive p s b g n=(dJ,3):=by
 unfold receive;rw [ah (fun hn=>hn h),h2];rfl
theorem LQ (h:checkState p s=0) (h2:(fD p b&&bU p g&&within n 1 200)=true) (h3:free p s b<n*aC p.sizes g.toNat):receive p s b g n=(dJ,5):=by
 unfold receive;rw [ah (fun hn=>hn h),h2,ah (by simp),ak h3]
theorem Aa (h:checkState p s=0) (h2:(fD p b&&bU p g&&within n 1 200)=true) (h3:n*aC p.sizes g.toNat≤free p s b) (h4:200<cell s.on b.toNat g.toNat+coming s b g+n∨1048576<aC s.inn g.toNat+n):receive p s b g n=(dJ,2):=by
 unfold receive;rw [ah (fun hn=>hn h),h2,ah (by simp),ah (by omega),ak h4]
theorem Qy (h:checkState p s=0) (h2:(fD p b&&bU p g&&within n 1 200)=true) (h3:n*aC p.sizes g.toNat≤free p s b) (h4:cell s.on b.toNat g.toNat+coming s b g+n≤200) (h5:aC s.inn g.toNat+n≤1048576):
  receive p s b g n=({s with on:=setCell s.on b.toNat g.toNat (cell s.on b.toNat g.toNat+n),inn:=s.inn.set g.toNat (aC s.inn g.toNat+n)},0):=by
 unfold receive;rw [ah (fun hn=>hn h),h2,ah (by simp),ah (by omega),ah (by omega)]
end
theorem Yq (w:World) (v vs:Value) (p:Plan) (s:State) (b g n:Int) (hp:fZ w w.heap.size v p) (hv:fE w w.heap.size vs s):
  Calls prog 44 #[v,vs,.int .i64 b,.int .i64 g,.int .i64 n] w (gU (receive p s b g n) w):=by
 obtain ⟨Ab,cb,As,cs,rfl,hP',hBn,hSz,hlb,hls⟩:=kN hp;obtain ⟨A0,c0,A1,c1,A2,c2,A3,c3,A4,c4,A5,c5,A6,c6,rfl,hV,hN,hO,hH,hM,hI,hU,hX,hl0,hl1,hl2,hl3,hl4,hl5,CW⟩:=iG hv;go_enter func44,ntmps44
 go_wp2_with fail;obtain ⟨W0,hW0,hb0,hsz0,hsz1,hsE,hK,hR⟩:=oH w p s Ab cb As cs A0 c0 A1 c1 A2 c2 A3 c3 A4 c4 A5 c5 A6 c6;rw [hW0];clear hW0;obtain ⟨⟨y0,y1⟩,x0,x1,x2,x3,x4,x5,x6,aV,aW⟩:=hK.out W0 (aj W0.heap.size W0);go_wp2_with fail;clear y0 y1 x0 x1 x2 x3 x4 x5 x6 aV aW;refine (G8 _ _ _ p s (hP'.out _ hb0) (hV.out _ hb0)).mono ?_
 rintro e W1 ⟨rfl,h1⟩;have hB1:=hb0.trans (h1.mono hb0.size);obtain ⟨⟨y0,y1⟩,x0,x1,x2,x3,x4,x5,x6,aV,aW⟩:=hK.out W1 (h1);by_cases hc:checkState p s=0
 ·have hc':=Lib.hid hc;have hsn:=Lib.hid (dV.1 hc).1;rw [hc];clear hc;go_wp2_with fail;clear y0 y1 x0 x1 x2 x3 x4 x5 x6 aV aW;refine (Dh _ _ p b g (hP'.out _ hB1)).mono ?_
  rintro e W2 ⟨rfl,h2⟩;have h02:=h1.trans (h2.mono h1.size);have hB2:=hb0.trans (h02.mono hb0.size);obtain ⟨⟨y0,y1⟩,x0,x1,x2,x3,x4,x5,x6,aV,aW⟩:=hK.out W2 (h02);cases hth:(fD p b&&bU p g)
  ·have hfin:=Lib.hid (rD (n:=n) hc'.out (by rw [hth];rfl))
   clear hth;have aX:=hR.out _ h02;go_wp2_with (refine aK (.tmp 10) (.tmp 31) aP aP rfl aX rfl rfl (fun w9 aN dh=>?_))
   have aQ:=Below.bG hB2 dh;go_wp2_with fail;exact dn results44 aN rfl rfl (dF hfin.out aQ)
  ·have WA:=Lib.hid hth;rw [dL] at hth
   have hbb:=Lib.hid (oU.1 hth.1);have hgg:=Lib.hid (lM.1 hth.2);clear hth;by_cases hn1:1≤n
   ·by_cases hn2:n≤200
    ·have hall:=Lib.hid (show (fD p b&&bU p g&&within n 1 200)=true by rw [WA.out,within_iff.2 ⟨hn1,hn2⟩];rfl)
     have hb1:0≤b:=hbb.out.1;have hb2:b<(s.on.length:Int):=by rw [hsn.out.ku];exact hbb.out.2
     have hg1:0≤g:=hgg.out.1;have hg2:g<(p.sizes.length:Int):=hgg.out.2;have hbl:b.toNat<s.on.length:=by omega
     have hgs:g.toNat<p.sizes.length:=by omega
     have hgl:g.toNat<(rowAt s.on b.toNat).length:=by rw [hsn.out.rowLen (by have:=hbb.out;omega)];omega
     have hgr:g<((rowAt s.on b.toNat).length:Int):=by omega
     have hgi:g<(s.inn.length:Int):=by rw [hsn.out.inn.1];omega
     obtain ⟨z1,z2⟩:=pR hsn.out.plan hgs;have hm1:=Jb (a:=n) (b:=aC p.sizes g.toNat) (by omega) ⟨z1,z2⟩
     have hw1:IntKind.i64.wrap (n*aC p.sizes g.toNat)=n*aC p.sizes g.toNat:=bf _ (by omega)
     obtain ⟨os0,ls0,rs0⟩:=(hSz.out W2 hB2).at_.int hgs;have q0:=fun o d os=>aG (w:=W2) (b:=w.heap.size) aW o d os
     have q1:=fun o d os=>aG (w:=W2) (b:=w.heap.size+1) aV o d os
     have q2:=fun o d os=>aG (w:=W2) (b:=dD As) ls0 o d os
     have hP2:=Lib.hid (fun d os=>hP'.out _ (hB2.trans ((dZ W2 d os).mono hB2.size)))
     have hV2:=Lib.hid (fun d os=>hV.out _ (hB2.trans ((dZ W2 d os).mono hB2.size)))
     by_cases hfu:free p s b<n*aC p.sizes g.toNat
     ·have hfin:=Lib.hid (LQ (n:=n) hc'.out hall.out hfu);go_wp2_with fail;refine aJ (by kernel_rfl) (by kernel_rfl) ?_
      repeat (go_big_quiet_step ((go_at_call 93;refine bD (jeI _ _ _ p s b (hP2.out _ _) (hV2.out _ _) hsn.out hbb.out))))
      refine wpQuiet_nil ?_
      intro W3 hw';have hb3:=aI hw';clear hw';have h03:=h02.trans (hb3.mono h02.size);have hB3:=hb0.trans (h03.mono hb0.size);have aX:=hR.out _ h03;go_wp2_with (refine aK (.tmp 10) (.tmp 45) aP aP rfl aX rfl rfl (fun w9 aN dh=>?_))
      have aQ:=Below.bG hB3 dh;go_wp2_with fail;exact dn results44 aN rfl rfl (dF hfin.out aQ)
     ·have jbv:n*aC p.sizes g.toNat≤free p s b:=by omega
      go_wp2_with fail;refine aJ (by kernel_rfl) (by kernel_rfl) ?_
      repeat (go_big_quiet_step ((go_at_call 93;refine bD (jeI _ _ _ p s b (hP2.out _ _) (hV2.out _ _) hsn.out hbb.out))))
      refine wpQuiet_nil ?_
      intro W3 hw';have hb3:=aI hw';clear hw';have h03:=h02.trans (hb3.mono h02.size);have hB3:=hb0.trans (h03.mono hb0.size);clear q0 q1 q2 hP2 hV2 hw1 rs0 os0 ls0;clear y0 y1 x0 x1 x2 x3 x4 x5 x6 aV aW;obtain ⟨⟨y0,y1⟩,x0,x1,x2,x3,x4,x5,x6,aV,aW⟩:=hK.out W3 (h03);obtain ⟨Ar,cr,YF,N8,Ux,hrow⟩:=(hN.out W3 hB3).row hbl;obtain ⟨YE,lr1,KP⟩:=hrow.at_.int hgl;obtain ⟨oi,li,ri⟩:=(hI.out W3 hB3).at_.int (i:=g.toNat) (by omega)
      have hcl:aC (rowAt s.on b.toNat) g.toNat=cell s.on b.toNat g.toNat:=rfl;rw [hcl] at KP
      clear hcl;have t1:=hsn.out.cell (b:=b.toNat) (g:=g.toNat) (by have:=hbb.out;omega) hgs
      have t2:=nN hsn.out b g;have t3:=hsn.out.inn.2 hgs;have hw1:IntKind.i64.wrap (cell s.on b.toNat g.toNat+coming s b g)=cell s.on b.toNat g.toNat+coming s b g:=bf _ (by omega)
      have hw2:IntKind.i64.wrap (cell s.on b.toNat g.toNat+coming s b g+n)=cell s.on b.toNat g.toNat+coming s b g+n:=bf _ (by omega)
      have hw3:IntKind.i64.wrap (aC s.inn g.toNat+n)=aC s.inn g.toNat+n:=bf _ (by omega)
      have q1:=fun o d os=>aG (w:=W3) (b:=w.heap.size+1) aV o d os
      have q2:=fun o d os=>aG (w:=W3) (b:=dD A0) N8 o d os
      have q3:=fun o d os=>aG (w:=W3) (b:=dD Ar) lr1 o d os
      have hV2:=Lib.hid (fun d os=>hV.out _ (hB3.trans ((dZ W3 d os).mono hB3.size)))
      by_cases hm:200<cell s.on b.toNat g.toNat+coming s b g+n
      ·have hfin:=Lib.hid (Aa (n:=n) hc'.out hall.out jbv (.inl hm));go_wp2_with fail;refine aJ (by kernel_rfl) (by kernel_rfl) ?_
       repeat (go_big_quiet_step ((go_at_call 94;refine bD (OX _ _ p s b g (hV2.out _ _) hsn.out))))
       refine wpQuiet_nil ?_
       intro W4 hw';have hb4:=aI hw';clear hw';have h04:=h03.trans (hb4.mono h03.size);have hB4:=hb0.trans (h04.mono hb0.size);have aX:=hR.out _ h04;go_wp2_with (refine aK (.tmp 10) (.tmp 71) aP aP rfl aX rfl rfl (fun w9 aN dh=>?_))
       have aQ:=Below.bG hB4 dh;go_wp2_with fail;exact dn results44 aN rfl rfl (dF hfin.out aQ)
      ·have hm':cell s.on b.toNat g.toNat+coming s b g+n≤200:=by omega
       go_wp2_with fail;refine aJ (by kernel_rfl) (by kernel_rfl) ?_
       repeat (go_big_quiet_step ((go_at_call 94;refine bD (OX _ _ p s b g (hV2.out _ _) hsn.out))))
       refine wpQuiet_nil ?_
       intro W4 hw';have hb4:=aI hw';clear hw';have h04:=h03.trans (hb4.mono h03.size);have hB4:=hb0.trans (h04.mono hb0.size);clear q1 q2 q3 hV2 hw1 hw2;clear y0 y1 x0 x1 x2 x3 x4 x5 x6 aV aW;obtain ⟨⟨y0,y1⟩,x0,x1,x2,x3,x4,x5,x6,aV,aW⟩:=hK.out W4 (h04);have ri4:=(hb4.cell (p:=⟨dD A4,jy A4+g.toNat,none⟩) li).trans ri;clear Ux KP ri hm;by_cases hi:1048576<aC s.inn g.toNat+n
       ·have hfin:=Lib.hid (Aa (n:=n) hc'.out hall.out jbv (.inr hi));have aX:=hR.out _ h04;go_wp2_with (refine aK (.tmp 10) (.tmp 71) aP aP rfl aX rfl rfl (fun w9 aN dh=>?_))
        have aQ:=Below.bG hB4 dh;go_wp2_with fail;exact dn results44 aN rfl rfl (dF hfin.out aQ)
       ·have hi':aC s.inn g.toNat+n≤1048576:=by omega
        have hfin:=Lib.hid (Qy (n:=n) hc'.out hall.out jbv hm' hi');go_wp2_with fail;clear y0 y1 x0 x1 x2 x3 x4 x5 x6 aV aW;clear ri4 hi;refine (Yg _ _ p s (hV.out _ hB4) hsn.out).mono ?_
        rintro e W5 ⟨_,rfl,⟨V5,rfl,qK⟩,h5⟩;have jc:=(qK).one;have nK:=pV (W5);go_wp2_with (refine aK (.tmp 13) (.tmp 73) aP V5 rfl nK rfl jc (fun w6 fH zO=>?_);refine aU ?_)
        unfold Hid;have jO:=jK zO;have lQ:=fH.lt;clear jc nK zO;have ho6:=qK.below jO;have h06:=h04.trans ((h5.trans (jO.mono h5.size)).mono h04.size);have O7:=hb0.trans (h06.mono hb0.size);have jbt:w.heap.size≤W4.heap.size:=hB4.size;have Ze:W0.heap.size≤W4.heap.size:=h04.size;obtain ⟨go,co,Ju,gr,cr2,cur,e1,f1,f2,f3,e2,f4,f5,f6⟩:=ho6.Jr hbl hgl;have hx0:=fH.cells.1;rw [e1] at hx0
        have hf:=f5.frozen g.toNat;have hst:=ho6.Yf hbl hgl e2 (cell s.on b.toNat g.toNat+n);have zQ:=fH.off hst.2 f5 (by decide)
        have hw4:IntKind.i64.wrap (cell s.on b.toNat g.toNat+n)=cell s.on b.toNat g.toNat+n:=bf _ (by omega)
        have h07:=h06.setCell (p:=⟨gr,g.toNat,none⟩) (bJ Ze f4) (.int .i64 (cell s.on b.toNat g.toNat+n));have hB7:=O7.setCell (p:=⟨gr,g.toNat,none⟩) (bJ jbt f4) (.int .i64 (cell s.on b.toNat g.toNat+n));go_wp2_with (refine lH rfl (.tmp 84) (.tmp 83) rfl rfl gr g.toNat _ _ rfl rfl f6 hf (fun w7 hw7=>?_);refine aU ?_)
        unfold Hid;rw [hw7] at hst zQ h07 hB7
        clear hw7 hw4 hx0 hf f2 f3 f5 f6 e1 e2 ho6 fH;have zN:aO w7 W4.heap.size V5 {s with on:=setCell s.on b.toNat g.toNat (cell s.on b.toNat g.toNat+n)}:=hst.1
        have jf6:g.toNat<s.inn.length:=by omega
        obtain ⟨gi,ci,jrx,e3,k1,k2,k3⟩:=aO.qX (l:=s.inn) zN.inn jf6;have hx4:=zQ.cells.2.2.2.2.1;rw [e3] at hx4
        have hfi:=k2.frozen g.toNat;have hst2:=zN.jeE jf6 e3 (aC s.inn g.toNat+n);have H9:=zQ.off hst2.2 k2 (by decide)
        have ug:=h07.setCell (p:=⟨gi,g.toNat,none⟩) (bJ Ze k1) (.int .i64 (aC s.inn g.toNat+n));have OJ:=hB7.setCell (p:=⟨gi,g.toNat,none⟩) (bJ jbt k1) (.int .i64 (aC s.inn g.toNat+n));go_wp2_with (refine lH rfl (.tmp 92) (.tmp 91) rfl rfl gi g.toNat _ _ rfl rfl k3 hfi (fun w8 hw8=>?_);refine aU ?_)
        unfold Hid;rw [hw8] at hst2 H9 ug OJ
        clear hw8 hx4 hfi k2 k3 e3;have ho8:aO w8 W4.heap.size V5 {s with on:=setCell s.on b.toNat g.toNat (cell s.on b.toNat g.toNat+n),inn:=s.inn.set g.toNat (aC s.inn g.toNat+n)}:=hst2.1
        have jfR:=Lib.hid ho8;have jbD:=Lib.hid H9;clear hst hst2 zN ho8 zQ H9 qK;have aX:=hR.out _ ug;obtain ⟨b0,b1,b2,b3,b4,b5,b6⟩:=dN.cells jbD.out;have eU:=aO.one jfR.out;go_wp2_with (refine aK (.tmp 10) (.tmp 93) aP V5 rfl aX rfl eU (fun w9 aN dh=>?_))
        have ng:=aO.keptBy jfR.out dh aX (by decide) (by decide) (by decide) (by decide) (by decide) (by decide)
        have aQ:=Below.bG OJ dh;clear b0 b1 b2 b3 b4 b5 b6;go_wp2_with fail;exact dn results44 aN rfl rfl (wH hfin.out (ng.from_ jbt) aQ)
    ·have hfin:=Lib.hid (rD (n:=n) hc'.out (by rw [WA.out,show within n 1 200=false from gY.2 (by omega)];rfl))
     have aX:=hR.out _ h02;go_wp2_with (refine aK (.tmp 10) (.tmp 31) aP aP rfl aX rfl rfl (fun w9 aN dh=>?_))
     have aQ:=Below.bG hB2 dh;go_wp2_with fail;exact dn results44 aN rfl rfl (dF hfin.out aQ)
   ·have hfin:=Lib.hid (rD (n:=n) hc'.out (by rw [WA.out,show within n 1 200=false from gY.2 (by omega)];rfl))
    have aX:=hR.out _ h02;go_wp2_with (refine aK (.tmp 10) (.tmp 31) aP aP rfl aX rfl rfl (fun w9 aN dh=>?_))
    have aQ:=Below.bG hB2 dh;go_wp2_with fail;exact dn results44 aN rfl rfl (dF hfin.out aQ)
 ·have hne:(checkState p s!=0)=true:=by simpa using hc
  have hfin:=Lib.hid (NW (b:=b) (g:=g) (n:=n) hc);clear hc;have aX:=hR.out _ h1;go_wp2_with (refine aK (.tmp 10) (.tmp 19) aP aP rfl aX rfl rfl (fun w9 aN dh=>?_))
  have aQ:=Below.bG hB1 dh;go_wp2_with fail;exact dn results44 aN rfl rfl (dF hfin.out aQ)
end Wh
namespace Wh
open Go Go.RowKit Go.Shelf Go.Proofs Tryz
structure Step (ks:Nat→Prop) (w w':World):Prop where
 os:w'.os=w.os
 tape:w'.tape=w.tape
 output:w'.output=w.output
 size:w.heap.size≤w'.heap.size
 block:∀ k,k<w.heap.size→¬ ks k→w'.heap[k]?=w.heap[k]?
namespace Step
variable {ks ks':Nat→Prop} {a b c w w':World}
theorem refl (ks:Nat→Prop) (w:World):Step ks w w:=⟨rfl,rfl,rfl,aA _,fun _ _ _=>rfl⟩
theorem trans' (h:Step ks a b) (h':Step ks' b c) (hk:∀ k,k<a.heap.size→ks' k→ks k):Step ks a c:=
 ⟨h'.os.trans h.os,h'.tape.trans h.tape,h'.output.trans h.output,bJ h.size h'.size,fun k hl hn=>(h'.block k (aZ hl h.size) (fun hh=>hn (hk k hl hh))).trans (h.block k hl hn)⟩
theorem trans (h:Step ks a b) (h':Step ks b c):Step ks a c:=h.trans' h' fun _ _ h=>h
theorem mono (h:Step ks w w') (hk:∀ k,ks k→ks' k):Step ks' w w':=⟨h.os,h.tape,h.output,h.size,fun k hl hn=>h.block k hl fun hh=>hn (hk k hh)⟩
theorem of_below (h:Below w.heap.size w w'):Step ks w w':=⟨h.os,h.tape,h.output,h.size,fun k hl _=>h.block k hl⟩
theorem dG {row:Option Nat} (h:w.grownBy w' row) (hk:∀ k,row=some k→ks k):Step ks w w':=
 ⟨h.os,h.tape,h.output,h.size,fun k hl hn=>h.block k hl (fun he=>hn (hk k he.symm))⟩
theorem below {B:Nat} (h:Step ks w w') (hk:∀ k,ks k→B≤k) (hB:B≤w.heap.size):Below B w w':=
 ⟨h.os,h.tape,h.output,h.size,fun k hl=>h.block k (aZ hl hB) fun hh=>Nat.not_le_of_lt hl (hk k hh)⟩
theorem blk {g:Nat} {e:TypeId} {cur:List Value} (h:Step ks w w') (hb:dw w g e cur) (hn:¬ ks g):dw w' g e cur:=(h.block g hb.lt hn).trans hb
theorem heap {g:Nat} {o:Obj} (h:Step ks w w') (hb:w.heap[g]?=some o) (hn:¬ ks g):w'.heap[g]?=some o:=(h.block g (gX.1 hb).1 hn).trans hb
end Step
theorem Own.step {α:Type} {enc:α→List Value} {size:Nat} {e:TypeId} {w w':World} {base:Nat} {v:Value} {l:List α} {ks:Nat→Prop} (h:Own enc size e w base v l) (hs:Step ks w w') (hk:∀ k,v.ownBlock=some k→¬ ks k):Own enc size e w' base v l:=by
 refine ⟨h.1,?_⟩
 rcases h.2 with hn|⟨g,cap,cur,rfl,hbg,hg,rest⟩
 ·exact .inl hn
 ·exact .inr ⟨g,cap,cur,rfl,hbg,by rw [hs.block g (gX.1 hg).1 (hk g rfl)];exact hg,rest⟩
structure jag (t:TypeId):Prop where
 h1:23≠t
 h2:3≠t
 h3:42≠t
 h4:44≠t
 h5:46≠t
 h6:48≠t
theorem SN:jag 31:=⟨by decide,by decide,by decide,by decide,by decide,by decide⟩
structure Bx (w:World) (base b:Nat) (t:TypeId) (rest:List Value) (V:SV) (s:State):Prop where
 box:dw w b t (V.cells++rest)
 own:aO w base V s
 ty:jag t
namespace Bx
variable {w w':World} {base b:Nat} {t:TypeId} {rest:List Value} {V:SV} {s:State} {ks:Nat→Prop}
theorem of (h:dN w b V) (ho:aO w base V s):Bx w base b 31 [] V s:=⟨by rw [mJ];exact h,ho,SN⟩
theorem kW (h:Bx w base b 31 [] V s):dN w b V:=by have:=h.box;rwa [mJ] at this
theorem lt (h:Bx w base b t rest V s):b<w.heap.size:=h.box.lt
theorem below (h:Bx w base b t rest V s) (hb:Below w.heap.size w w'):Bx w' base b t rest V s:=⟨h.box.below hb h.lt,h.own.below hb,h.ty⟩
theorem drew (h:Bx w base b t rest V s):Bx w.drew base b t rest V s:=⟨h.box,h.own.drew,h.ty⟩
theorem from_ (h:Bx w base b t rest V s) {base':Nat} (hb:base'≤base):Bx w base' b t rest V s:=⟨h.box,h.own.from_ hb,h.ty⟩
theorem cells (h:Bx w base b t rest V s):w.cell? ⟨b,0,none⟩=some V.on∧w.cell? ⟨b,1,none⟩=some V.orders∧w.cell? ⟨b,2,none⟩=some V.holds∧w.cell? ⟨b,3,none⟩=some V.moves∧
  w.cell? ⟨b,4,none⟩=some V.inn∧w.cell? ⟨b,5,none⟩=some V.out∧w.cell? ⟨b,6,none⟩=some V.fixed:=
 ⟨h.box.cell rfl,h.box.cell rfl,h.box.cell rfl,h.box.cell rfl,h.box.cell rfl,h.box.cell rfl,h.box.cell rfl⟩
theorem frozen (h:Bx w base b t rest V s) (o:Nat):w.frozen? ⟨b,o,none⟩=false:=h.box.frozen o
theorem setCells (h:Bx w base b t rest V s) (j:Nat) (u:Value) (V':SV) (hV:V'.cells++rest=(V.cells++rest).set j u):
  dw (w.setCell ⟨b,j,none⟩ u) b t (V'.cells++rest)∧w.grownBy (w.setCell ⟨b,j,none⟩ u) (some b)∧aO (w.setCell ⟨b,j,none⟩ u) base V s:=by
 obtain ⟨h1,h2⟩:=pF h.box j u;exact ⟨by rw [hV];exact h1,h2,h.own.keptBy h2 h.box h.ty.h1 h.ty.h2 h.ty.h3 h.ty.h4 h.ty.h5 h.ty.h6⟩
theorem set' {V':SV} {s':State} (hb:dw w b t (V.cells++rest)) (ho:aO w base V' s') (hT:jag t) (j:Nat) (u:Value) (hV:V'.cells++rest=(V.cells++rest).set j u):
  Bx (w.setCell ⟨b,j,none⟩ u) base b t rest V' s'∧w.grownBy (w.setCell ⟨b,j,none⟩ u) (some b):=by
 obtain ⟨h1,h2⟩:=pF hb j u;exact ⟨⟨by rw [hV];exact h1,ho.keptBy h2 hb hT.h1 hT.h2 hT.h3 hT.h4 hT.h5 hT.h6,hT⟩,h2⟩
theorem Ew {w1 w2:World} (h:Bx w base b t rest V s) (hb:Below w.heap.size w w1) {u:Value} {x:Order} (hu:Own eP 4 44 w1 base u x.lines) (hf:∀ g,u.ownBlock=some g→w.heap.size≤g) (hg:w1.grownBy w2 V.orders.ownBlock)
  {v':Value} (hv:Own Gh 2 42 w2 base v' (pU s.orders V.lines++[(x.kind,u)])):
  dw w2 b t (V.cells++rest)∧aO w2 base {V with orders:=v',lines:=V.lines++[u]} {s with orders:=s.orders++[x]}:=by
 have h1:=h.below hb;exact ⟨h1.box.grown hg (fun he=>by
  rcases h1.own.orders.iD h1.box h1.ty.h3 with h|h
  ·rw [h] at he;cases he
  ·exact h he.symm),h.own.Ew hb hu hf hg hv⟩
theorem jeF (h:Bx w base b t rest V s) {u:Value} {l:List Hold} (hu:Own bM 4 46 w base u l):
  Bx (w.setCell ⟨b,2,none⟩ u) base b t rest {V with holds:=u} {s with holds:=l}∧w.grownBy (w.setCell ⟨b,2,none⟩ u) (some b):=by
 obtain ⟨h1,h2,h3⟩:=h.setCells 2 u {V with holds:=u} rfl
 exact ⟨⟨h1,⟨h3.on,h3.rlen,h3.row,h3.orders,h3.llen,h3.line,hu.kept h2 (hu.iD h.box h.ty.h5),h3.moves,h3.inn,h3.out,h3.fixed,h3.apart,h3.oQ⟩,h.ty⟩,h2⟩
theorem off (h:Bx w base b t rest V s) {g:Nat} {e:TypeId} {cur:List Value} (hb:dw w g e cur) (hne:e≠t) (hg:w.grownBy w' (some g)):dw w' b t (V.cells++rest):=
 h.box.grown hg (by intro he;injection he with he;exact hb.ne h.box hne he.symm)
end Bx
theorem jhZ {w:World} {base:Nat} {V:SV} {s:State} (h:aO w base V s) {o k:Nat} (ho:o<s.orders.length) (hk:k<(s.order o).lines.length) {gl n c:Nat} (hv:V.line o=.slice (some ⟨gl,0,none⟩) n c):∃ cur,dw w gl 44 cur:=by
 obtain ⟨g,c',cur,e1,_,e3,_⟩:=h.bH ho hk;rw [hv] at e1
 injection e1 with e1
 injection e1 with e1
 injection e1 with e1
 subst e1;exact ⟨cur,e3⟩
section
variable {ops:Array Oper} {rest:List Oper} {o:Oper} {a:Act} {w:World} {Q:Exit→Act→World→Prop} {base b:Nat} {t:TypeId} {cs:List Value} {V:SV} {s:State}
theorem zk (hgd:o.guard=none) (x y:Operand) (ho:o.op=.store 28 x y) (hn:o.dst=none) (A:Option Addr) (n c:Nat) (l:List Hold) (hB:Bx w base b t cs V s) (hx:a.eval x=.pointer (some ⟨b,2,none⟩)) (hy:a.eval y=.slice A n c)
  (hu:Own bM 4 46 w base (.slice A n c) l) (h:∀ w',Bx w' base b t cs {V with holds:=.slice A n c} {s with holds:=l}→Step (·=b) w w'→wpList prog ops Q rest a w'):wpList prog ops Q (o::rest) a w:=
 lV hgd fun K hK=>by
  obtain ⟨h1,h2⟩:=hB.jeF hu;have h3:=h _ h1 (.dG h2 fun k hk=>by injection hk with hk;exact hk.symm)
  have hc:=hB.cells.2.2.1;have hf:=hB.frozen 2;clear h hB hu h1 h2;unfold Oper.wp;simp only [execOp,ho,hx,hy];go_simp
  exact hK _ _ h3
theorem jbS {w:World} {gl o j:Nat} {a b c d:Value} (hj:j<4) (h0:w.cell? ⟨gl,o,none⟩=some a) (h1:w.cell? ⟨gl,o+1,none⟩=some b) (h2:w.cell? ⟨gl,o+2,none⟩=some c) (h3:w.cell? ⟨gl,o+3,none⟩=some d):∃ u,w.cell? ⟨gl,o+j,none⟩=some u:=by
 rcases (show j=0∨j=1∨j=2∨j=3 by omega) with rfl|rfl|rfl|rfl
 ·exact ⟨_,h0⟩
 ·exact ⟨_,h1⟩
 ·exact ⟨_,h2⟩
 ·exact ⟨_,h3⟩
theorem Jw (hgd:o.guard=none) (x y:Operand) (ho:o.op=.store 27 x y) (hn:o.dst=none) (A:Option Addr) (n c:Nat) {V':SV} {s':State} (hk:dw w b t (V.cells++cs)) (hO:aO w base V' s') (hT:jag t) (hV:V'.cells++cs=(V.cells++cs).set 1 (.slice A n c))
  (hx:a.eval x=.pointer (some ⟨b,1,none⟩)) (hy:a.eval y=.slice A n c) (h:∀ w',Bx w' base b t cs V' s'→Step (·=b) w w'→wpList prog ops Q rest a w'):wpList prog ops Q (o::rest) a w:=
 lV hgd fun K hK=>by
  obtain ⟨h1,h2⟩:=Bx.set' hk hO hT 1 (.slice A n c) hV;have h3:=h _ h1 (.dG h2 fun k hk=>by injection hk with hk;exact hk.symm)
  have hc:w.cell? ⟨b,1,none⟩=some V.orders:=hk.cell rfl;have hf:=hk.frozen 1;clear h hk hO h1 h2 hV;unfold Oper.wp;simp only [execOp,ho,hx,hy];go_simp
  exact hK _ _ h3
theorem zU (hgd:o.guard=none) (x y:Operand) (ho:o.op=.store 28 x y) (hn:o.dst=none) (A:Option Addr) (n c:Nat) {V':SV} {s':State} (hk:dw w b t (V.cells++cs)) (hO:aO w base V' s') (hT:jag t) (hV:V'.cells++cs=(V.cells++cs).set 2 (.slice A n c))
  (hx:a.eval x=.pointer (some ⟨b,2,none⟩)) (hy:a.eval y=.slice A n c) (h:∀ w',Bx w' base b t cs V' s'→Step (·=b) w w'→wpList prog ops Q rest a w'):wpList prog ops Q (o::rest) a w:=
 lV hgd fun K hK=>by
  obtain ⟨h1,h2⟩:=Bx.set' hk hO hT 2 (.slice A n c) hV;have h3:=h _ h1 (.dG h2 fun k hk=>by injection hk with hk;exact hk.symm)
  have hc:w.cell? ⟨b,2,none⟩=some V.holds:=hk.cell rfl;have hf:=hk.frozen 2;clear h hk hO h1 h2 hV;unfold Oper.wp;simp only [execOp,ho,hx,hy];go_simp
  exact hK _ _ h3
theorem EY (hgd:o.guard=none) (x y:Operand) (ho:o.op=.store 29 x y) (hn:o.dst=none) (A:Option Addr) (n c:Nat) {V':SV} {s':State} (hk:dw w b t (V.cells++cs)) (hO:aO w base V' s') (hT:jag t) (hV:V'.cells++cs=(V.cells++cs).set 3 (.slice A n c))
  (hx:a.eval x=.pointer (some ⟨b,3,none⟩)) (hy:a.eval y=.slice A n c) (h:∀ w',Bx w' base b t cs V' s'→Step (·=b) w w'→wpList prog ops Q rest a w'):wpList prog ops Q (o::rest) a w:=
 lV hgd fun K hK=>by
  obtain ⟨h1,h2⟩:=Bx.set' hk hO hT 3 (.slice A n c) hV;have h3:=h _ h1 (.dG h2 fun k hk=>by injection hk with hk;exact hk.symm)
  have hc:w.cell? ⟨b,3,none⟩=some V.moves:=hk.cell rfl;have hf:=hk.frozen 3;clear h hk hO h1 h2 hV;unfold Oper.wp;simp only [execOp,ho,hx,hy];go_simp
  exact hK _ _ h3
theorem qF (hgd:o.guard=none) (x z:Operand) (ho:o.op=.store 3 x z) (hn:o.dst=none) {i k j gl n c:Nat} {y:Line} {q:Int} (hB:Bx w base b t cs V s) (hi:i<s.orders.length) (hk:k<(s.order i).lines.length)
  (hv:V.line i=.slice (some ⟨gl,0,none⟩) n c) (hj:j<4) (hy:eP y=(eP (s.line i k)).set j (.int .i64 q)) (hx:a.eval x=.pointer (some ⟨gl,k*4+j,none⟩)) (hz:a.eval z=.int .i64 q)
  (h:∀ w',Bx w' base b t cs V (s.fG i k y)→Step (·=gl) w w'→wpList prog ops Q rest a w'):wpList prog ops Q (o::rest) a w:=
 lV hgd fun K hK=>by
  obtain ⟨g',c',cur,e1,_,e3,f0,f1,f2,f3⟩:=hB.own.bH hi hk;rw [hv] at e1
  injection e1 with e1
  injection e1 with e1
  injection e1 with e1
  subst e1;obtain ⟨h1,h2⟩:=hB.own.fG hi hk hv hj hy;have h3:=h _ ⟨hB.off e3 hB.ty.h4 h2,h1,hB.ty⟩ (.dG h2 fun k hk=>by injection hk with hk;exact hk.symm)
  have hf:=e3.frozen (k*4+j);obtain ⟨u,hc⟩:=jbS hj f0 f1 f2 f3;clear h hB h1 h2 f0 f1 f2 f3 e3 hy;unfold Oper.wp;simp only [execOp,ho,hx,hz];go_simp
  exact hK _ _ h3
end
end Wh
namespace Wh
open Go Go.RowKit Go.Shelf Go.Proofs Tryz
attribute [local go_sem] au dQ dI dX
def oK (p:Plan) (x:Line):Bool:=!(bU p x.good&&within x.want 1 200)
def DN (x:Line):Bool:=!(decide (x.got=0)&&decide (x.back=0))
theorem Uf (p:Plan) (x:Line):(bU p x.good=false∧oK p x=true)∨(bU p x.good=true∧x.want<1∧oK p x=true)∨(bU p x.good=true∧1≤x.want∧200<x.want∧oK p x=true)∨
  (bU p x.good=true∧1≤x.want∧x.want≤200∧oK p x=false):=by
 unfold oK;have h1:=@within_iff x.want 1 200;cases hw:within x.want 1 200<;>cases hg:bU p x.good<;>simp only [hw,og,AQ,yM] at h1<;>simp<;>omega
theorem LX (x:Line):((x.jo1=0)=true∧DN x=true)∨((x.jo1=0)=false∧(x.back!=0)=true∧DN x=true)∨((x.jo1=0)=false∧(x.back!=0)=false∧DN x=false):=by
 unfold DN;by_cases h1:x.got=0<;>by_cases h2:x.back=0<;>simp [h1,h2]
section
variable {p:Plan} {s:State} {l:List Line}
theorem U8 (h:checkState p s≠0):enter p s l=(dJ,checkState p s):=by unfold enter;rw [ak h]
theorem CB (h:checkState p s=0) (h2:4≤s.orders.length∨l.length<1∨3<l.length):enter p s l=(dJ,2):=by
 unfold enter;have hw:=@within_iff l.length 1 3;have h3:4≤s.orders.length∨(!within l.length 1 3)=true:=by
  cases hh:within l.length 1 3
  ·exact .inr rfl
  ·have:=hw.1 hh;omega
 rw [ah (fun hn=>hn h),ak h3]
theorem Ir (h:checkState p s=0) (h2:s.orders.length<4) (h3:1≤l.length∧l.length≤3) (h4:l.any (oK p)=true):enter p s l=(dJ,3):=by
 unfold enter;have e:(!(l.all fun x=>bU p x.good&&within x.want 1 200))=true:=by rw [← xE];exact h4
 have hw:within l.length 1 3=true:=within_iff.2 (by omega)
 rw [ah (fun hn=>hn h),hw,ah (by simp;omega),ak e]
theorem KH (h:checkState p s=0) (h2:s.orders.length<4) (h3:1≤l.length∧l.length≤3) (h4:l.any (oK p)=false) (h5:l.any DN=true):enter p s l=(dJ,1):=by
 unfold enter;have e:(!(l.all fun x=>bU p x.good&&within x.want 1 200))=false:=by rw [← xE];exact h4
 have e2:(!(l.all fun x=>decide (x.got=0)&&decide (x.back=0)))=true:=by rw [← xE];exact h5
 have hw:within l.length 1 3=true:=within_iff.2 (by omega)
 rw [ah (fun hn=>hn h),hw,ah (by simp;omega),e,e2]
 rfl
theorem ZK (h:checkState p s=0) (h2:s.orders.length<4) (h3:1≤l.length∧l.length≤3) (h4:l.any (oK p)=false) (h5:l.any DN=false):enter p s l=({s with orders:=s.orders++[⟨0,l⟩]},0):=by
 unfold enter;have e:(!(l.all fun x=>bU p x.good&&within x.want 1 200))=false:=by rw [← xE];exact h4
 have e2:(!(l.all fun x=>decide (x.got=0)&&decide (x.back=0)))=false:=by rw [← xE];exact h5
 have hw:within l.length 1 3=true:=within_iff.2 (by omega)
 rw [ah (fun hn=>hn h),hw,ah (by simp;omega),e,e2]
 rfl
end
theorem jgY (p:Plan) (x:Line) (W:World) (B:Nat) (hz:bK p=0) (Ab As:Option Addr) (cb cs:Nat) (h0:W.cell? ⟨B,0,none⟩=some (.slice Ab p.aH.length cb)) (h1:W.cell? ⟨B,1,none⟩=some (.slice As p.sizes.length cs)) (hB:B<W.heap.size)
  (hP:fZ W W.heap.size (.agg #[.slice Ab p.aH.length cb,.slice As p.sizes.length cs]) p):
  Calls prog 96 #[BL x,.pointer (some ⟨B,0,none⟩)] W fun e W'=>e=.returned (.bool (oK p x))∧Below W.heap.size W W':=by
 have hb1:fD p 0=true:=oU.2 (by have:=jC hz;omega)
 have hb0:Below W.heap.size W (W.alloc (.cells #[.int .i64 (x).good,.int .i64 (x).want,.int .i64 (x).got,.int .i64 (x).back] 44)):=(aj _ _).alloc (aA _) _;unfold BL;rcases Uf p x with ⟨g1,hf⟩|⟨g1,g2,hf⟩|⟨g1,g2,g3,hf⟩|⟨g1,g2,g3,hf⟩
 all_goals
  have hth:(fD p 0&&bU p x.good)=(bU p x.good):=by rw [hb1];rfl
  have WA:=Lib.hid hth;clear hth;have hf':=Lib.hid hf;clear hf;go_enter func96,ntmps96
  go_wp2_with fail;refine (Dh _ _ p 0 x.good (hP.grow hb0)).mono ?_
  rintro e W1 ⟨rfl,hc1⟩;have hB:=hb0.trans (hc1.mono hb0.size);obtain ⟨ha1,hf1⟩:=nP hc1;rw [WA.out,g1];go_wp2_with fail;go_ret
  exact ⟨aY (by rw [hf'.out]<;>first|rfl|(simp<;>omega)),hB⟩
theorem jbW:Enters prog 96:=enters_of func96 (by kernel_rfl) rfl
theorem jiN (x:Line) (W:World):Calls prog 97 #[BL x] W fun e W'=>e=.returned (.bool (DN x))∧Below W.heap.size W W':=by
 have hb0:Below W.heap.size W (W.alloc (.cells #[.int .i64 (x).good,.int .i64 (x).want,.int .i64 (x).got,.int .i64 (x).back] 44)):=(aj _ _).alloc (aA _) _;unfold BL;rcases LX x with ⟨g1,hf⟩|⟨g1,g2,hf⟩|⟨g1,g2,hf⟩
 all_goals
  have hf':=Lib.hid hf;clear hf;go_enter func97,ntmps97
  go_wp2_with fail;go_ret
  exact ⟨aY (by rw [hf'.out]),hb0⟩
theorem jbV:Enters prog 97:=enters_of func97 (by kernel_rfl) rfl
theorem jdi (w:World) (v vs vl:Value) (p:Plan) (s:State) (l:List Line) (hp:fZ w w.heap.size v p) (hv:fE w w.heap.size vs s) (hl:Sl eP w w.heap.size vl l):
  Calls prog 45 #[v,vs,vl] w (gU (enter p s l) w):=by
 have hL:=Lib.hid hl;obtain ⟨Al,cl,rfl,hll,hAl⟩:=hl;clear hAl;obtain ⟨Ab,cb,As,cs,rfl,hP',hBn,hSz,hlb,hls⟩:=kN hp;obtain ⟨A0,c0,A1,c1,A2,c2,A3,c3,A4,c4,A5,c5,A6,c6,rfl,hV,hN,hO,hH,hM,hI,hU,hX,hl0,hl1,hl2,hl3,hl4,hl5,CW⟩:=iG hv;go_enter func45,ntmps45
 go_wp2_with fail;obtain ⟨W0,hW0,hb0,hsz0,hsz1,hsE,hK,hR⟩:=oH w p s Ab cb As cs A0 c0 A1 c1 A2 c2 A3 c3 A4 c4 A5 c5 A6 c6;rw [hW0];clear hW0;obtain ⟨⟨y0,y1⟩,x0,x1,x2,x3,x4,x5,x6,aV,aW⟩:=hK.out W0 (aj W0.heap.size W0);go_wp2_with fail;clear y0 y1 x0 x1 x2 x3 x4 x5 x6 aV aW;refine (G8 _ _ _ p s (hP'.out _ hb0) (hV.out _ hb0)).mono ?_
 rintro e W1 ⟨rfl,h1⟩;have hB1:=hb0.trans (h1.mono hb0.size);obtain ⟨⟨y0,y1⟩,x0,x1,x2,x3,x4,x5,x6,aV,aW⟩:=hK.out W1 (h1);by_cases hc:checkState p s=0
 ·have hc':=Lib.hid hc;have hsn:=Lib.hid (dV.1 hc).1;rw [hc];clear hc;have h4:=hsn.out.jh;by_cases OG:s.orders.length=4
  ·have hfin:=Lib.hid (CB (l:=l) hc'.out (.inl (by omega)))
   have jfS:(s.orders.length:Int)=4:=by omega
   clear OG h4;have aX:=hR.out _ h1;go_wp2_with (refine aK (.tmp 6) (.tmp 28) aP aP rfl aX rfl rfl (fun w9 aN dh=>?_))
   have aQ:=Below.bG hB1 dh;go_wp2_with fail;exact dn results45 aN rfl rfl (dF hfin.out aQ)
  have jqf:((s.orders.length:Int)==4)=false:=by simp;omega
  by_cases hl1:l.length<1
  ·have hfin:=Lib.hid (CB (p:=p) (s:=s) hc'.out (.inr (.inl hl1)));clear OG;have aX:=hR.out _ h1;go_wp2_with (refine aK (.tmp 6) (.tmp 28) aP aP rfl aX rfl rfl (fun w9 aN dh=>?_))
   have aQ:=Below.bG hB1 dh;go_wp2_with fail;exact dn results45 aN rfl rfl (dF hfin.out aQ)
  by_cases hl3:3<l.length
  ·have hfin:=Lib.hid (CB (p:=p) (s:=s) hc'.out (.inr (.inr hl3)));clear OG;have aX:=hR.out _ h1;go_wp2_with (refine aK (.tmp 6) (.tmp 28) aP aP rfl aX rfl rfl (fun w9 aN dh=>?_))
   have aQ:=Below.bG hB1 dh;go_wp2_with fail;exact dn results45 aN rfl rfl (dF hfin.out aQ)
  have ho:s.orders.length<4:=by omega
  have WE:1≤l.length∧l.length≤3:=by omega
  clear OG;go_wp2_with fail;clear y0 y1 x0 x1 x2 x3 x4 x5 x6 aV aW;refine (nT _ _ l 96 #[.pointer (some ⟨w.heap.size,0,none⟩)] (oK p) jbW (hL.out.grow hB1) (fun j _ W hW=>by
   have hW2:=h1.trans (hW.mono h1.size);obtain ⟨⟨a0,a1⟩,_,_,_,_,_,_,_,_,a2⟩:=hK.out W hW2;exact jgY p _ W w.heap.size hsn.out.plan Ab As cb cs a0 a1 a2 (hP'.out W (hb0.trans (hW2.mono hb0.size))))).mono ?_
  rintro e W2 ⟨rfl,h2⟩;have h02:=h1.trans (h2.mono h1.size);have hB2:=hb0.trans (h02.mono hb0.size);obtain ⟨⟨y0,y1⟩,x0,x1,x2,x3,x4,x5,x6,aV,aW⟩:=hK.out W2 (h02);cases ha:l.any (oK p)
  ·have ha':=Lib.hid ha;clear ha;go_wp2_with fail;clear y0 y1 x0 x1 x2 x3 x4 x5 x6 aV aW;refine (nT _ _ l 97 #[] DN jbV (hL.out.grow hB2) (fun j _ W hW=>jiN _ W)).mono ?_
   rintro e W3 ⟨rfl,h3⟩;have h03:=h02.trans (h3.mono h02.size);have hB3:=hb0.trans (h03.mono hb0.size);obtain ⟨⟨y0,y1⟩,x0,x1,x2,x3,x4,x5,x6,aV,aW⟩:=hK.out W3 (h03);cases hn:l.any DN
   ·have hfin:=Lib.hid (ZK hc'.out ho WE ha'.out hn);clear hn;go_wp2_with fail;clear y0 y1 x0 x1 x2 x3 x4 x5 x6 aV aW;refine (Yg _ _ p s (hV.out _ hB3) hsn.out).mono ?_
    rintro e W5 ⟨_,rfl,⟨V5,rfl,qK⟩,h5⟩;have jc:=(qK).one;have nK:=pV (W5);go_wp2_with (refine aK (.tmp 9) (.tmp 39) aP V5 rfl nK rfl jc (fun w6 fH zO=>?_);refine aU ?_)
    unfold Hid;have jO:=jK zO;have lQ:=fH.lt;clear jc nK zO;have hx6:=Lib.hid (Bx.of fH (qK.below jO));have h06:=h03.trans ((h5.trans (jO.mono h5.size)).mono h03.size);have O7:=hb0.trans (h06.mono hb0.size);have hle3:w.heap.size≤W3.heap.size:=hB3.size;have jn0:W0.heap.size≤W3.heap.size:=h03.size;have qp:W3.heap.size≤W5.heap.size:=h5.size;have jqo:W5.heap.size<w6.heap.size:=lQ;clear fH qK jO h5 lQ;go_wp2_with fail;refine lT 6 [fun gq _=>gq 40=.pointer (some ⟨W5.heap.size,1,none⟩),fun gq _=>gq 41=V5.orders,fun gq _=>gq 42=.slice Al l.length cl,fun gq w'=>(fun v w'=>Own eP 4 44 w' w6.heap.size v l) (gq 43) w',fun gq w'=>(fun v w'=>∃ u,v=.agg #[.int .i64 0,u]∧Own eP 4 44 w' w6.heap.size u l) (gq 44) w',fun gq w'=>(fun v w'=>∃ bb u,v=.slice (some ⟨bb,0,none⟩) 1 1∧w'.cell? ⟨bb,0,none⟩=some (.int .i64 0)∧w'.cell? ⟨bb,1,none⟩=some u∧bb<w'.heap.size∧Own eP 4 44 w' w6.heap.size u l) (gq 45) w'] (by kernel_rfl) (by kernel_rfl) rfl (by kernel_rfl) ?_ (fun f w2 hb2 hR=>?_)
    simp only [eY,eG];refine bg.cons (dU.val rfl rfl (fun gq w' hb ho hd=>?_)) ?_
    ·have e9:=ho 9 rfl;go_simp
    refine bg.cons (dU.val rfl rfl (fun gq w' hb ho hd=>?_)) ?_
    ·have e40:gq 40=.pointer (some ⟨W5.heap.size,1,none⟩):=hd ⟨0,.data⟩ (by simp) rfl (by decide)
     have x1:=(hx6.out.below hb).cells.2.1;go_simp
    refine bg.cons (dU.val rfl rfl (fun gq w' hb ho hd=>?_)) ?_
    ·have e2:=ho 2 rfl;go_simp
    refine bg.cons (dU.one (d:=43) (p:=(fun v w'=>Own eP 4 44 w' w6.heap.size v l)) rfl rfl (fun v w1 w2 h hb=>h.below hb) (fun gq w' hb ho hd=>?_)) ?_
    ·have e42:gq 42=.slice Al l.length cl:=hd ⟨2,.data⟩ (by simp) rfl (by decide)
     have hl':=hL.out.grow (O7.trans (hb.mono O7.size));unfold dO;go_simp
     refine (Vf w' _ l hl' (by omega)).mono ?_
     rintro e w2 ⟨u,rfl,hu,hb2⟩;exact ⟨u,rfl,hu.from_ hb.size,hb2⟩
    refine bg.cons (dU.one (d:=44) (p:=(fun v w'=>∃ u,v=.agg #[.int .i64 0,u]∧Own eP 4 44 w' w6.heap.size u l)) rfl rfl (fun v w1 w2 h hb=>let ⟨u,h1,h2⟩:=h;⟨u,h1,h2.below hb⟩) (fun gq w' hb ho hd=>?_)) ?_
    ·have e43:Own eP 4 44 w' w6.heap.size (gq 43) l:=hd ⟨3,.data⟩ (by simp) rfl (by decide)
     obtain ⟨E,kc,s30⟩:=e43.isSlice;rw [s30] at e43
     have e':=Lib.hid e43;clear e43;unfold dO;go_simp
     exact ⟨e'.out,aj _ _⟩
    refine bg.cons (dU.one (d:=45) (p:=(fun v w'=>∃ bb u,v=.slice (some ⟨bb,0,none⟩) 1 1∧w'.cell? ⟨bb,0,none⟩=some (.int .i64 0)∧w'.cell? ⟨bb,1,none⟩=some u∧bb<w'.heap.size∧Own eP 4 44 w' w6.heap.size u l)) rfl rfl (fun v w1 w2 h hb=>let ⟨bb,u,h1,h2,h2',h3,h4⟩:=h;⟨bb,u,h1,(hb.cell (p:=⟨bb,0,none⟩) h3).trans h2,(hb.cell (p:=⟨bb,1,none⟩) h3).trans h2',aZ h3 hb.size,h4.below hb⟩) (fun gq w' hb ho hd=>?_)) ?_
    ·have e44:∃ u,(gq 44)=.agg #[.int .i64 0,u]∧Own eP 4 44 w' w6.heap.size u l:=hd ⟨4,.data⟩ (by simp) rfl (by decide)
     obtain ⟨u,e44,hu⟩:=e44;obtain ⟨E,kc,s30⟩:=hu.isSlice;rw [s30] at e44 hu
     have e':=Lib.hid hu;clear hu;unfold dO;go_simp
     exact ⟨e'.out.alloc _,(aj _ _).alloc (aA _) _⟩
    exact bg.nil;obtain ⟨r40,r41,r42,r43,r44,r45,_⟩:=hR;replace r43:Own eP 4 44 w2 w6.heap.size (f 43) l:=r43;replace r44:∃ u,(f 44)=.agg #[.int .i64 0,u]∧Own eP 4 44 w2 w6.heap.size u l:=r44;replace r45:∃ bb u,(f 45)=.slice (some ⟨bb,0,none⟩) 1 1∧w2.cell? ⟨bb,0,none⟩=some (.int .i64 0)∧w2.cell? ⟨bb,1,none⟩=some u∧bb<w2.heap.size∧Own eP 4 44 w2 w6.heap.size u l:=r45;simp only [fU,qZ,eY,eG,lF,mG,mF,mD,jH,mg,iW,iy,iJ,r40,r41,r42];clear r40 r41 r42;obtain ⟨bb,u,r4,d0,d1,l4,o4⟩:=r45;simp only [r4];clear r4 r43 r44;obtain ⟨E,kc,rfl⟩:=o4.isSlice;have hx2:=hx6.out.below hb2;have OG:=kV hx2.own.llen;refine gK _ rfl (.tmp 41) (.tmp 45) 27 42 rfl W3.heap.size _ 2 32 underlying27 Jg rfl (by decide) (by decide) V5.orders (pU s.orders V5.lines) (0,.slice E l.length kc) rfl hx2.own.orders ⟨bb,0,none⟩ 1 rfl rfl (fun j x hj=>by
     rw [jq,iV];match j,hj with
     |0,hj=>exact d0.trans hj
     |1,hj=>exact d1.trans hj
     |j+2,hj=>simp [Gh] at hj) (VY _ rfl) (by omega) (by have:=hb2.size;omega) ?_
    intro v7 w7 qy O5 Rw zB;obtain ⟨hk7,zN⟩:=hx6.out.Ew hb2 (x:=⟨0,l⟩) (o4.from_ (by omega)) (fun g hg=>(o4.size g hg).1) O5 qy
    obtain ⟨Av,cv,hv7⟩:=qy.isSlice;simp only [dK,gQ,je,iV] at hv7
    have h07:=h06.trans ((hb2.mono h06.size).trans (zB.mono (by omega)))
    have hT7:=hx2.ty;rw [hv7] at zN
    rw [hv7];have WC:=Lib.hid zN;have jf3:=Lib.hid hk7;clear qy O5 Rw hv7 d0 d1 l4 o4 hx2 OG hk7 zN;go_wp2_with (refine Jw rfl (.tmp 47) (.tmp 46) rfl rfl Av _ cv jf3.out WC.out hT7 rfl rfl rfl (fun w8 EF qJ=>?_);refine aU ?_)
    unfold Hid;have jdF:=h07.size;have ug:=h07.trans (qJ.below (B:=W0.heap.size) (fun k hk=>by omega) jdF)
    have OJ:=hb0.trans (ug.mono hb0.size);obtain ⟨V8,EF⟩:∃ V8,Bx w8 W3.heap.size W5.heap.size 31 [] V8 {s with orders:=s.orders++[⟨0,l⟩]}:=⟨_,EF⟩
    have lN:=Lib.hid EF;clear WC jf3 EF qJ jdF;have aX:=hR.out _ ug;obtain ⟨b0,b1,b2,b3,b4,b5,b6⟩:=dN.cells lN.out.kW;have eU:=aO.one lN.out.own;go_wp2_with (refine aK (.tmp 6) (.tmp 48) aP V8 rfl aX rfl eU (fun w9 aN dh=>?_))
    have ng:=aO.keptBy lN.out.own dh aX (by decide) (by decide) (by decide) (by decide) (by decide) (by decide)
    have aQ:=Below.bG OJ dh;clear b0 b1 b2 b3 b4 b5 b6;go_wp2_with fail;exact dn results45 aN rfl rfl (wH hfin.out (ng.from_ hle3) aQ)
   ·have hfin:=Lib.hid (KH hc'.out ho WE ha'.out hn);clear hn;have aX:=hR.out _ h03;go_wp2_with (refine aK (.tmp 6) (.tmp 37) aP aP rfl aX rfl rfl (fun w9 aN dh=>?_))
    have aQ:=Below.bG hB3 dh;go_wp2_with fail;exact dn results45 aN rfl rfl (dF hfin.out aQ)
  ·have hfin:=Lib.hid (Ir hc'.out ho WE ha);clear ha;have aX:=hR.out _ h02;go_wp2_with (refine aK (.tmp 6) (.tmp 33) aP aP rfl aX rfl rfl (fun w9 aN dh=>?_))
   have aQ:=Below.bG hB2 dh;go_wp2_with fail;exact dn results45 aN rfl rfl (dF hfin.out aQ)
 ·have hne:(checkState p s!=0)=true:=by simpa using hc
  have hfin:=Lib.hid (U8 (l:=l) hc);clear hc;have aX:=hR.out _ h1;go_wp2_with (refine aK (.tmp 6) (.tmp 15) aP aP rfl aX rfl rfl (fun w9 aN dh=>?_))
  have aQ:=Below.bG hB1 dh;go_wp2_with fail;exact dn results45 aN rfl rfl (dF hfin.out aQ)
end Wh
namespace Wh
open Go Go.RowKit Go.Shelf Go.Proofs Tryz
attribute [local go_sem] au
theorem jhR {l:List Hold} {h:Hold} {k:Nat} (hk:k≤l.length) (h1:∀ i,i<k→ord (hold l i) h<0) (h2:∀ i,k≤i→i<l.length→0≤ord (hold l i) h):pos l h=k:=
 pos_eq hk h1 (fun hk'=>h2 k (aA _) hk')
theorem jew (w:World) (v:Value) (l:List Hold) (x:Hold) (hv:Sl bM w w.heap.size v l) (hok:bQ l=true) (hn:l.length≤1000000):
  Calls prog 169 #[v,kG x,.func (.func 167) #[] #[]] w fun e w'=>e=.returned (.tuple #[.int .i64 (pos l x),.bool (found l x)])∧Below w.heap.size w w':=by
 obtain ⟨A,c,rfl,_,hA⟩:=hv;have hless:=Lib.hid (fun (i j:Nat) (hij:i≤j) (hj:j<l.length) (h:ord (hold l j) x<0)=>jct hok hij hj h)
 have hok':=Lib.hid hok;clear hok;have hb0:Below w.heap.size w (w.alloc (.cells #[.int .i64 (x).order,.int .i64 (x).line,.int .i64 (x).bin,.int .i64 (x).n] 46)):=(aj _ _).alloc (aA _) _;unfold kG;go_enter func169,ntmps169
 go_wp2_with fail;obtain ⟨W0,hW0⟩:∃ W0,W0=w.alloc (.cells #[.int .i64 (x).order,.int .i64 (x).line,.int .i64 (x).bin,.int .i64 (x).n] 46):=⟨_,rfl⟩;rw [← hW0] at hb0 ⊢
 have z0:W0.cell? ⟨w.heap.size,0,none⟩=some (.int .i64 x.order)∧W0.cell? ⟨w.heap.size,1,none⟩=some (.int .i64 x.line)∧W0.cell? ⟨w.heap.size,2,none⟩=some (.int .i64 x.bin)∧W0.cell? ⟨w.heap.size,3,none⟩=some (.int .i64 x.n):=by rw [hW0];simp
 have hsz:w.heap.size<W0.heap.size:=by rw [hW0];simp
 clear hW0;obtain ⟨z0,z1,z2,z3⟩:=z0;go_loopw [9,10,11] (fun i j _ wr=>∃ a b:Nat,a≤b∧b≤l.length∧i=.int .i64 a∧j=.int .i64 b∧(∀ m,m<a→ord (hold l m) x<0)∧(∀ m,b≤m→m<l.length→0≤ord (hold l m) x)∧Below W0.heap.size W0 wr) (fun i j _ _=>(intOf j - intOf i).toNat)
 case atStart=>exact ⟨0,l.length,aT _,aA _,rfl,rfl,fun m hm=>by omega,fun m h1 h2=>by omega,aj _ _⟩
 case round=>
  obtain ⟨a,b,hab,hbl,rfl,rfl,h1,h2,hbw⟩:=hrel;have h1':=Lib.hid h1;have h2':=Lib.hid h2;clear h1 h2;by_cases hlt:a<b
  ·have hm:(a+b) / 2<l.length:=by omega
   have hma:a≤(a+b) / 2:=by omega
   have hmb:(a+b) / 2<b:=by omega
   have hB:=hb0.trans (hbw.mono hb0.size);have hBz:w.heap.size<wr.heap.size:=aZ hsz hbw.size;obtain ⟨y0,y1,y2,y3⟩:wr.cell? ⟨w.heap.size,0,none⟩=some (.int .i64 x.order)∧wr.cell? ⟨w.heap.size,1,none⟩=some (.int .i64 x.line)∧wr.cell? ⟨w.heap.size,2,none⟩=some (.int .i64 x.bin)∧wr.cell? ⟨w.heap.size,3,none⟩=some (.int .i64 x.n):=
    ⟨(hbw.cell (p:=⟨_,_,none⟩) hsz).trans z0,(hbw.cell (p:=⟨_,_,none⟩) hsz).trans z1,(hbw.cell (p:=⟨_,_,none⟩) hsz).trans z2,(hbw.cell (p:=⟨_,_,none⟩) hsz).trans z3⟩
   obtain ⟨hok,EX,b0,b1,b2,b3⟩:=(hA.up hB hB.size).hold hm;have q0:=fun o d os=>aG (w:=wr) (b:=w.heap.size) hBz o d os
   have qA:=fun o d os=>aG (w:=wr) (b:=dD A) EX o d os
   by_cases ho:ord (hold l ((a+b) / 2)) x<0
   ·go_wp2_with fail;refine aJ (by kernel_rfl) (by kernel_rfl) ?_
    repeat (go_big_quiet_step ((go_at_call 167;refine bD (Jh (hold l ((a+b) / 2)) x _))))
    refine wpQuiet_nil ?_
    intro W2 hw';have hb2:=aI hw';clear hw';go_wp2_with fail;go_roundw
    case rel=>
     refine ⟨(a+b) / 2+1,b,by omega,hbl,by go_num,rfl,fun m hm=>?_,h2'.out,hbw.trans (hb2.mono hbw.size)⟩
     exact hless.out m _ (by omega) (by omega) ho
    case measure=>simp [intOf];omega
   ·have ho':0≤ord (hold l ((a+b) / 2)) x:=by omega
    go_wp2_with fail;refine aJ (by kernel_rfl) (by kernel_rfl) ?_
    repeat (go_big_quiet_step ((go_at_call 167;refine bD (Jh (hold l ((a+b) / 2)) x _))))
    refine wpQuiet_nil ?_
    intro W2 hw';have hb2:=aI hw';clear hw';go_wp2_with fail;go_roundw
    case rel=>
     refine ⟨a,(a+b) / 2,by omega,by omega,rfl,by go_num,h1'.out,fun m hm hml=>?_,hbw.trans (hb2.mono hbw.size)⟩
     exact Int.not_lt.1 fun hn=>by have:=hless.out _ m hm hml hn;omega
    case measure=>simp [intOf];omega
  ·obtain rfl:a=b:=by omega
   have hpos:pos l x=a:=jhR hbl h1'.out h2'.out;have hpos':=Lib.hid hpos;have hB:=hb0.trans (hbw.mono hb0.size);by_cases hal:a<l.length
   ·have hBz:w.heap.size<wr.heap.size:=aZ hsz hbw.size;obtain ⟨y0,y1,y2,y3⟩:wr.cell? ⟨w.heap.size,0,none⟩=some (.int .i64 x.order)∧wr.cell? ⟨w.heap.size,1,none⟩=some (.int .i64 x.line)∧wr.cell? ⟨w.heap.size,2,none⟩=some (.int .i64 x.bin)∧wr.cell? ⟨w.heap.size,3,none⟩=some (.int .i64 x.n):=
     ⟨(hbw.cell (p:=⟨_,_,none⟩) hsz).trans z0,(hbw.cell (p:=⟨_,_,none⟩) hsz).trans z1,(hbw.cell (p:=⟨_,_,none⟩) hsz).trans z2,(hbw.cell (p:=⟨_,_,none⟩) hsz).trans z3⟩
    obtain ⟨hok,EX,b0,b1,b2,b3⟩:=(hA.up hB hB.size).hold hal;have q0:=fun o d os=>aG (w:=wr) (b:=w.heap.size) hBz o d os
    have qA:=fun o d os=>aG (w:=wr) (b:=dD A) EX o d os
    have hf:=Lib.hid (show found l x=(ord (hold l a) x==0) by
     unfold found;rw [hpos,lg hal,rU];rw [GV];simp)
    clear hpos;go_wp2_with fail;refine aJ (by kernel_rfl) (by kernel_rfl) ?_
    repeat (go_big_quiet_step ((go_at_call 167;refine bD (Jh (hold l a) x _))))
    refine wpQuiet_nil ?_
    intro W2 hw';have hb2:=aI hw';clear hw';go_wp2_with fail;go_ret2
    exact ⟨jaI (by rw [hpos'.out];rfl) (by rw [hf.out];rfl),hB.trans (hb2.mono hB.size)⟩
   ·have hf:=Lib.hid (show found l x=false by
     unfold found;rw [hpos,iU hal,GU])
    obtain rfl:a=l.length:=by omega
    clear hpos hal;go_wp2_with fail;refine aJ (by kernel_rfl) (by kernel_rfl) ?_
    repeat (go_big_quiet_step ((go_at_call 167;refine bD (Jh (hold l a) x _))))
    refine wpQuiet_nil ?_
    intro W2 hw';have hb2:=aI hw';clear hw';go_wp2_with fail;go_ret2
    exact ⟨jaI (by rw [hpos'.out];rfl) (by rw [hf.out];rfl),hB.trans (hb2.mono hB.size)⟩
theorem jgc (w:World) (v:Value) (l:List Hold) (x:Hold) (hv:Sl bM w w.heap.size v l) (hok:bQ l=true) (hn:l.length≤1000000):
  Calls prog 154 #[v,kG x] w fun e w'=>e=.returned (.tuple #[.int .i64 (pos l x),.bool (found l x)])∧Below w.heap.size w w':=by
 have hV:=hv;obtain ⟨A,c,rfl,hl,hA⟩:=hv;have hok':=Lib.hid hok;clear hok;have hb0:Below w.heap.size w (w.alloc (.cells #[.int .i64 (x).order,.int .i64 (x).line,.int .i64 (x).bin,.int .i64 (x).n] 46)):=(aj _ _).alloc (aA _) _;unfold kG;go_enter func154,ntmps154
 go_wp2_with fail;refine (jew _ _ l x (hV.grow hb0) hok'.out hn).mono ?_
 rintro e W1 ⟨rfl,hb1⟩;go_wp2_with fail;go_ret2
 exact ⟨jaI rfl rfl,hb0.trans (hb1.mono hb0.size)⟩
end Wh
