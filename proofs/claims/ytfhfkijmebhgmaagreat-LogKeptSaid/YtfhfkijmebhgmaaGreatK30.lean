/- A part. -/
import Derived.Deep.Slices
import Derived.Deep.Fields
import Derived.ChangeSame
import Derived.Test.YtfhfkijmebhgmaaGreatChecked
import Derived.KernelRfl
import Derived.ChangeMaps5
import Derived.Test.YtfhfkijmebhgmaaGreatK29
set_option maxHeartbeats 20000000
set_option maxRecDepth 100000
namespace Wh
open Go Go.RowKit Go.Shelf Go.Proofs Tryz
attribute [local go_sem] aT jW jm kC
def jcR(w:World)(B:Nat)(A:Option Addr)(l:List yK):Prop:=∀k,(hk:k<l.length)->∃A2 c2,okA A/\jd A<B/\w.cell? ⟨jd A,ou A+k*6,none⟩=some (.int .i64 l[k].dW)/\w.cell? ⟨jd A,ou A+k*6+1,none⟩=some (.int .i64 l[k].a)/\w.cell? ⟨jd A,ou A+k*6+2,none⟩=some (.int .i64 l[k].b)/\
 w.cell? ⟨jd A,ou A+k*6+3,none⟩=some (.int .i64 l[k].c)/\w.cell? ⟨jd A,ou A+k*6+4,none⟩=some (.int .i64 l[k].n)/\w.cell? ⟨jd A,ou A+k*6+5,none⟩=some (.slice A2 l[k].aH.length c2)/\Sl kP w B (.slice A2 l[k].aH.length c2) l[k].aH
theorem jcR.up{w w':World}{B B':Nat}{A:Option Addr}{l:List yK}(h:jcR w B A l)(hb:Below B w w')(hB:B<=B'):jcR w' B' A l:=λk hk=>by
 obtain⟨A2,c2,h1,h2,f0,f1,f2,f3,f4,f5,hs⟩:=h k hk;exact⟨A2,c2,h1,aI h2 hB,(hb.cell (p:=⟨jd A,_,none⟩) h2).trans f0,(hb.cell (p:=⟨jd A,_,none⟩) h2).trans f1,(hb.cell (p:=⟨jd A,_,none⟩) h2).trans f2,(hb.cell (p:=⟨jd A,_,none⟩) h2).trans f3,(hb.cell (p:=⟨jd A,_,none⟩) h2).trans f4,(hb.cell (p:=⟨jd A,_,none⟩) h2).trans f5,hs.up hb hB⟩
structure Made(w:World)(aO:Nat)(V:SV)(p:dA)(s:aJ):Prop where
 view:lK w w.heap.size V.val s
 cap:Si V.val
 one:V.cells.all (λu=>u.oneCell')=true
def Lu(aO:Nat)(V:SV)(p:dA)(s:aJ)(w:World):Prop:=(dK w aO V s/\small s=true)\/(RB w aO V (List.replicate p.aP.length 0) p.bQ.length/\s=begin p/\gQ p=0)
theorem Lu.below{w w':World}{aO:Nat}{V:SV}{p:dA}{s:aJ}(h:Lu aO V p s w)(hb:Below w.heap.size w w'):Lu aO V p s w':=by
 rcases h with⟨h,h2⟩|⟨h,h2⟩
 ·exact .inl ⟨h.below hb,h2⟩
 ·exact .inr ⟨h.below hb,h2⟩
theorem Lu.kept{w w':World}{aO b:Nat}{V V':SV}{p:dA}{s:aJ}(h:Lu aO V p s w)(hg:w.grownBy w' (some b))(hb:jk w b V'):Lu aO V p s w':=by
 rcases h with⟨h,h2⟩|⟨h,h2⟩
 ·exact .inl ⟨h.keptBy hg hb.blk (by decide) (by decide) (by decide) (by decide) (by decide) (by decide),h2⟩
 ·exact .inr ⟨h.keptBy hg hb.blk (by decide) (by decide),h2⟩
theorem Lu.from_{w:World}{aO base':Nat}{V:SV}{p:dA}{s:aJ}(h:Lu base' V p s w)(hb:aO<=base'):Lu aO V p s w:=by
 rcases h with⟨h,h2⟩|⟨h,h2⟩
 ·exact .inl ⟨h.from_ hb,h2⟩
 ·exact .inr ⟨h.from_ hb,h2⟩
theorem dK.jhJ{w:World}{aO:Nat}{V:SV}{s:aJ}(h:dK w aO V s):Si V.val:=by
 obtain⟨A,c,e⟩:=h.aF.isSlice;have hm:=h.aF;rw[e]at hm
 refine⟨V.on,V.ak,V.aA,A,s.aF.length,c,V.gY,V.O,V.bg,?_,Own.cap hm⟩
 rw[<- e];rfl
theorem Lu.made{w:World}{aO:Nat}{V:SV}{p:dA}{s:aJ}(h:Lu aO V p s w):Made w aO V p s:=by
 rcases h with⟨h,h2⟩|⟨h,rfl,hz⟩
 ·exact⟨h.view0 h2,h.jhJ,h.one⟩
 ·obtain⟨_,hc6,_,hc3⟩:=pJ hz;refine⟨h.view (by omega) (by omega),⟨V.on,V.ak,V.aA,none,0,0,V.gY,V.O,V.bg,?_,au _⟩,h.one⟩
  have e:=h.VH;show Value.agg #[V.on,V.ak,V.aA,V.aF,V.gY,V.O,V.bg]=_;rw[e];rfl
def jaG(B:Nat)(_:Nat)(w1 w2:World):Prop:=Below B w1 w2/\∀aO V s,dK w1 aO V s->dK w2 aO V s
theorem ZU{w1 w2:World}{B k:Nat}(h:Below w1.heap.size w1 w2)(hB:B<=w1.heap.size):jaG B k w1 w2:=⟨h.mono hB,λ_ _ _ h'=>h'.below h⟩
theorem jdK{w1 w2:World}{B b k:Nat}{V:SV}(hb:jk w1 b V)(hB:B<=b)(hg:w1.grownBy w2 (some b)):jaG B k w1 w2:=
 ⟨(aj B w1).grown hg (aY hB (jh hb.lt)) (λk hk=>by injection hk with hk;omega),λ_ _ _ h=>h.keptBy hg hb.blk (by decide) (by decide) (by decide) (by decide) (by decide) (by decide)⟩
def Q9(mk:SV->Value)(B:Nat)(s:aJ)(_:Nat)(v:Value)(w:World):Prop:=∃V:SV,v=mk V/\dK w B V s
theorem Qn{mk:SV->Value}{B ph:Nat}{s:aJ}{v:Value}{w1 w2:World}(h:Q9 mk B s ph v w1)(hb:Below w1.heap.size w1 w2):Q9 mk B s ph v w2:=by
 obtain⟨V,h1,h2⟩:=h;exact⟨V,h1,h2.below hb⟩
theorem SC{mk:SV->Value}{B B' k:Nat}{s:aJ}{v:Value}{w1 w2:World}(h:Q9 mk B s k v w1)(hb:jaG B' k w1 w2):Q9 mk B s (k+1) v w2:=by
 obtain⟨V,h1,h2⟩:=h;exact⟨V,h1,hb.2 _ _ _ h2⟩
def jeF(B:Nat)(ph:Nat)(v:Value)(w:World):Prop:=∃b,v=.pointer (some ⟨b,0,none⟩)/\B<=b/\(ph<=1->jk w b dH)
theorem jeE{B ph:Nat}{v:Value}{w1 w2:World}(h:jeF B ph v w1)(hb:Below w1.heap.size w1 w2):jeF B ph v w2:=by
 obtain⟨b,h1,h2,h3⟩:=h;exact⟨b,h1,h2,λhp=>(h3 hp).below hb (h3 hp).lt⟩
theorem jjN{B:Nat}{v:Value}{w1 w2:World}(h:jeF B 1 v w1):jeF B 2 v w2:=by
 obtain⟨b,h1,h2,_⟩:=h;exact⟨b,h1,h2,λhp=>absurd hp (by omega)⟩
def QX(d B:Nat)(s:aJ)(g:Nat->Value)(w:World):Prop:=∃b V,g d=.pointer (some ⟨b,0,none⟩)/\B<=b/\jk w b V/\dK w B V s
theorem XG{d B:Nat}{s:aJ}{g:Nat->Value}{w1 w2:World}(h:QX d B s g w1)(hb:Below w1.heap.size w1 w2):QX d B s g w2:=by
 obtain⟨b,V,h1,h2,h3,h4⟩:=h;exact⟨b,V,h1,h2,h3.below hb h3.lt,h4.below hb⟩
theorem jko(w:World)(v:Value)(p:dA)(l:List yK)(A:Option Addr)(c:Nat)(hp:mW w w.heap.size v p)(hz:gQ p=0)(hA:jcR w w.heap.size A l)(hl:l.length<=60):
  Calls prog 35 #[v,.slice A l.length c] w λe w'=>∃V:SV,e=.returned V.val/\Lu w.heap.size V p (wL p l (begin p)) w'/\Below w.heap.size w w':=by
 obtain⟨Ab,cb,As,cs,rfl,hP',hBn,hSz,hlb,hls⟩:=sN hp;have hA':=ah hA;have hz':=ah hz;clear hA hp hz;go_enter func35,ntmps35
 go_wp2_with fail;obtain⟨W0,hW0,hb0,hpl,hbx,lg⟩:=jcJ w p Ab cb As cs;rw[hW0];clear hW0;have y0:=hpl.cell (j:=0) rfl;have y1:=hpl.cell (j:=1) rfl;have lpl:=hpl.lt;go_wp2_with fail;clear y0 y1;refine(jhq _ _ p (hP'.O _ hb0) hz'.O).mono ?_
 rintro e W1 ⟨V1,rfl,hR1,h1⟩;have jl7:=hR1.one;have jq0:=vG W1;go_wp2_with (refine dB (.tmp 5) (.tmp 10) dH V1 rfl jq0 rfl jl7 (λw2 PZ hg2=>?_);refine aW ?_)
 unfold Hid;have S9:=qX hg2;have h02:=h1.trans (S9.mono h1.size);have hB2:=hb0.trans (h02.mono hb0.size);have hpl2:=ah (hpl.below h02 lpl);have Ji:=ah (hbx.below h02 hbx.lt);have hU2:=ah (show Lu w.heap.size V1 p (begin p) w2 from .inr ⟨(hR1.below S9).from_ hb0.size,rfl,hz'.O⟩)
 have Kz:=ah PZ;have hlx:w.heap.size+1<W1.heap.size:=by have:=h1.size;omega
 clear hpl hbx hb0 h1 hR1 jl7 jq0 hg2 S9 PZ h02;generalize W1.heap.size=bx at Kz hlx ⊢
 go_wp2_with fail;go_loopw[6] (λi wr=>∃(k:Nat) (V:SV),k<=l.length/\i=.int .i64 k/\jk wr bx V/\Lu w.heap.size V p (wL p (l.take k) (begin p)) wr/\iV wr w.heap.size 25 [.slice Ab p.bQ.length cb,.slice As p.aP.length cs]/\jk wr (w.heap.size+1) dH/\Below w.heap.size w wr) (λi _=>l.length - (RowKit.intOf i).toNat)
 case atStart=>exact⟨0,V1,aK _,rfl,Kz.O,hU2.O,hpl2.O,Ji.O,hB2⟩
 case round=>
  clear Kz hU2 hpl2 Ji hB2;obtain⟨k,V,hk,rfl,E5,hU,hpl,hbx,hBr⟩:=hrel;have P5:=ah E5;have hU':=ah hU;have hpl':=ah hpl;have AZ:=ah hbx;clear E5 hU hpl hbx;have lbx:=P5.O.lt;have lpl:=hpl'.O.lt;by_cases hlt:k<l.length
  ·have hki:(k:Int)<(l.length:Int):=by omega
   obtain⟨A2,c2,ok1,lA,f0,f1,f2,f3,f4,f5,hsl⟩:=(hA'.O.up hBr hBr.size) k hlt;have hdn:=Ue (p:=p) (s:=begin p) hlt;obtain⟨sk,hsk⟩:∃sk,wL p (l.take k) (begin p)=sk:=⟨_,rfl⟩;rw[hsk]at hdn hU'
   obtain⟨x,hx⟩:∃x,l[k]=x:=⟨_,rfl⟩;rw[hx]at f0 f1 f2 f3 f4 f5 hsl hdn
   obtain⟨s1,c1,hact⟩:∃s1 c1,act p sk x=(s1,c1):=⟨_,_,rfl⟩;rw[hact]at hdn
   have hs1:=ah (show small s1=true by have:=QN p sk x;rwa [hact]at this)
   have jad:=ah hdn;have YV:=ah hact;have jkL:=ah hsl;clear hx hdn hact hsl hsk;go_wp2_with fail;refine U5 13 (λwq=>Below wr.heap.size wr wq) (jaG wr.heap.size) 10 11 (by decide) (by decide) (by decide) (λo ho=>by injection ho with ho;subst ho;exact⟨⟨10,.data⟩,by simp,rfl,rfl⟩)
    [λ_ gq _=>gq 18=.agg #[.slice Ab p.bQ.length cb,.slice As p.aP.length cs],λ_ gq _=>gq 19=.agg #[V.on,V.ak,V.aA,V.aF,V.gY,V.O,V.bg],λ_ gq _=>gq 20=.slice A l.length c,λ_ gq _=>gq 21=.int .i64 k,λ_ gq _=>gq 22=.pointer (some ⟨jd A,ou A+k*6,none⟩),λ_ gq _=>gq 23=.agg #[.int .i64 x.dW,.int .i64 x.a,.int .i64 x.b,.int .i64 x.c,.int .i64 x.n,.slice A2 x.aH.length c2],λph gq w'=>Q9 (λV=>.tuple #[V.val,.int .i64 c1]) wr.heap.size s1 ph (gq 24) w',λph gq w'=>Q9 (λV=>.tuple #[V.val,.int .i64 c1]) wr.heap.size s1 ph (gq 17) w',λph gq w'=>Q9 SV.val wr.heap.size s1 ph (gq 25) w',λ_ gq _=>gq 26=.int .i64 c1,λph gq w'=>jeF wr.heap.size ph (gq 7) w',λph gq w'=>ph=2/\QX 7 wr.heap.size s1 gq w',λ_ gq _=>gq 8=.int .i64 c1] (by kernel_rfl) (by kernel_rfl) rfl (by kernel_rfl)
    (λw1 w2 h h'=>h.trans (h'.mono h.size)) (λk w1 w2 h h'=>h.trans h'.1) (aj _ _).drew ?_ (λf w5 h45 hR=>?_)
   ·simp only[bC,bV];refine BZ.cons (H9.val rfl rfl (by decide) (by decide) (λph gq w' hb ho hd=>?_)) ?_
    ·have e2:=ho 2 rfl;have y0:=(hpl'.O.below hb lpl).cell (j:=0) rfl;have y1:=(hpl'.O.below hb lpl).cell (j:=1) rfl;go_simp
    refine BZ.cons (H9.val rfl rfl (by decide) (by decide) (λph gq w' hb ho hd=>?_)) ?_
    ·have e5:=ho 5 rfl;obtain⟨x0,x1,x2,x3,x4,x5,x6⟩:=(P5.O.below hb lbx).cells;go_simp
    refine BZ.cons (H9.val rfl rfl (by decide) (by decide) (λph gq w' hb ho hd=>?_)) ?_
    ·have e1:=ho 1 rfl;go_simp
    refine BZ.cons (H9.val rfl rfl (by decide) (by decide) (λph gq w' hb ho hd=>?_)) ?_
    ·have e6:=ho 6 rfl;go_simp
    refine BZ.cons (H9.val rfl rfl (by decide) (by decide) (λph gq w' hb ho hd=>?_)) ?_
    ·have e20:gq 20=.slice A l.length c:=hd ⟨2,.data⟩ (by simp) rfl (by decide)
     have e21:gq 21=.int .i64 k:=hd ⟨3,.data⟩ (by simp) rfl (by decide)
     go_simp
    refine BZ.cons (H9.val rfl rfl (by decide) (by decide) (λph gq w' hb ho hd=>?_)) ?_
    ·have e22:gq 22=.pointer (some ⟨jd A,ou A+k*6,none⟩):=hd ⟨4,.data⟩ (by simp) rfl (by decide)
     have u0:=(hb.cell (p:=⟨jd A,ou A+k*6,none⟩) lA).trans f0;have u1:=(hb.cell (p:=⟨jd A,ou A+k*6+1,none⟩) lA).trans f1;have u2:=(hb.cell (p:=⟨jd A,ou A+k*6+2,none⟩) lA).trans f2;have u3:=(hb.cell (p:=⟨jd A,ou A+k*6+3,none⟩) lA).trans f3;have u4:=(hb.cell (p:=⟨jd A,ou A+k*6+4,none⟩) lA).trans f4;have u5:=(hb.cell (p:=⟨jd A,ou A+k*6+5,none⟩) lA).trans f5;go_simp
    refine BZ.cons (H9.one (d:=24) (p:=Q9 (λV=>.tuple #[V.val,.int .i64 c1]) wr.heap.size s1) rfl rfl (by decide) (by decide) (λ_ _ _ _ h hb=>Qn h hb) (λ_ _ _ _ _ h hb=>SC h hb) (λph gq w' hb ho hd=>?_)) ?_
    ·have e18:gq 18=.agg #[.slice Ab p.bQ.length cb,.slice As p.aP.length cs]:=hd ⟨0,.data⟩ (by simp) rfl (by decide)
     have e19:gq 19=.agg #[V.on,V.ak,V.aA,V.aF,V.gY,V.O,V.bg]:=hd ⟨1,.data⟩ (by simp) rfl (by decide)
     have e23:gq 23=.agg #[.int .i64 x.dW,.int .i64 x.a,.int .i64 x.b,.int .i64 x.c,.int .i64 x.n,.slice A2 x.aH.length c2]:=hd ⟨5,.data⟩ (by simp) rfl (by decide)
     unfold iT;go_simp
     have hmd:=(hU'.O.below hb).made;refine(jlM w' _ _ _ p sk x (hP'.O _ (hBr.trans (hb.mono hBr.size))) hmd.view ⟨_,rfl,jkL.O.up hb hb.size⟩ hmd.cap).mono ?_
     rintro e w2 ⟨V2,rfl,ho2,hb2⟩;rw[YV.O]at ho2 ⊢
     exact⟨_,rfl,⟨V2,rfl,ho2.from_ hb.size⟩,hb2⟩
    refine BZ.cons (H9.one (d:=17) (p:=Q9 (λV=>.tuple #[V.val,.int .i64 c1]) wr.heap.size s1) rfl rfl (by decide) (by decide) (λ_ _ _ _ h hb=>Qn h hb) (λ_ _ _ _ _ h hb=>SC h hb) (λph gq w' hb ho hd=>?_)) ?_
    ·have eq:Q9 (λV=>.tuple #[V.val,.int .i64 c1]) wr.heap.size s1 ph (gq 24) w':=hd ⟨6,.data⟩ (by simp) rfl (by decide)
     obtain⟨V3,eq,ho3⟩:=eq;have jnr:=ah ho3;clear ho3;unfold iT;go_simp
     exact⟨⟨V3,rfl,jnr.O⟩,aj _ _⟩
    refine BZ.cons (H9.one (d:=25) (p:=Q9 SV.val wr.heap.size s1) rfl rfl (by decide) (by decide) (λ_ _ _ _ h hb=>Qn h hb) (λ_ _ _ _ _ h hb=>SC h hb) (λph gq w' hb ho hd=>?_)) ?_
    ·have eq:Q9 (λV=>.tuple #[V.val,.int .i64 c1]) wr.heap.size s1 ph (gq 17) w':=hd ⟨7,.data⟩ (by simp) rfl (by decide)
     obtain⟨V3,eq,ho3⟩:=eq;have jnr:=ah ho3;clear ho3;unfold iT;go_simp
     exact⟨⟨V3,rfl,jnr.O⟩,aj _ _⟩
    refine BZ.cons (H9.val rfl rfl (by decide) (by decide) (λph gq w' hb ho hd=>?_)) ?_
    ·have eq:Q9 (λV=>.tuple #[V.val,.int .i64 c1]) wr.heap.size s1 ph (gq 17) w':=hd ⟨7,.data⟩ (by simp) rfl (by decide)
     obtain⟨V3,eq,ho3⟩:=eq;clear ho3;go_simp
    refine BZ.cons (H9.first (d:=7) (p:=jeF wr.heap.size) rfl rfl (λ_ _ _ _ h hb=>jeE h hb) (λ_ _ _ h _=>jjN h) (λgq w' hb ho hd=>?_)) ?_
    ·unfold iT;go_simp
     have hal:Below w'.heap.size w' (w'.alloc (.cells #[.slice none 0 0,.slice none 0 0,.slice none 0 0,.slice none 0 0,.slice none 0 0,.slice none 0 0,.slice none 0 0] 31)):=(aj _ _).alloc (au _) _;exact⟨⟨_,rfl,hb.size,λ_=>vG _⟩,ZU hal hb.size⟩
    refine BZ.cons (H9.second (p:=QX 7 wr.heap.size s1) (by decide) rfl (λ_ _ _ h hb=>XG h hb) (λgq gq' w1 he h=>by
      have e1:=he 10 _ 7 (JD.dP (e:=⟨10,.data⟩) rfl (by simp) rfl rfl (JD.self _)) rfl rfl
      unfold QX;rw[<- e1];exact h) (λgq w' hb ho hd=>?_)) ?_
    ·have eb:jeF wr.heap.size 1 (gq 7) w':=hd ⟨10,.data⟩ (by simp) rfl (by decide)
     have ev:Q9 SV.val wr.heap.size s1 1 (gq 25) w':=hd ⟨8,.data⟩ (by simp) rfl (by decide)
     obtain⟨b,eb,hbl,hbo⟩:=eb;obtain⟨V3,ev,ho3⟩:=ev;have hbo:=hbo (au _);refine Rh (.tmp 7) (.tmp 25) rfl b dH V3 hbo eb ev ho3.one (λw8 KW hg8=>?_)
     exact⟨⟨b,V3,eb,hbl,KW,ho3.keptBy hg8 hbo.blk (by decide) (by decide) (by decide) (by decide) (by decide) (by decide)⟩,jdK hbo hbl hg8⟩
    refine BZ.cons (H9.val rfl rfl (by decide) (by decide) (λph gq w' hb ho hd=>?_)) ?_
    ·have e26:gq 26=.int .i64 c1:=hd ⟨9,.data⟩ (by simp) rfl (by decide)
     go_simp
    exact BZ.nil
   obtain⟨r18,r19,r20,r21,r22,r23,⟨Va,r24,_⟩,⟨Vb,r17,_⟩,⟨Vc,r25,_⟩,r26,_,⟨_,bb,V2,r7,hlb,Jl,jns⟩,r8,_⟩:=hR;simp only[kG,zB,bC,bV,eG,gW,eX,fF,fB,gV,bM,dF,dL,r18,r19,r20,r21,r22,r23,r24,r17,r25,r26,r7,r8];clear r18 r19 r20 r21 r22 r23 r24 r17 r25 r26 r7 r8;refine fC ?_
   have TS:=jns.one;have Xv:=ah (jns.from_ hBr.size);have hb5:=ah (P5.O.below h45 lbx);have hU5:=ah (hU'.O.below h45);have jnl:=ah (hpl'.O.below h45 lpl);have jk5:=ah (AZ.O.below h45 AZ.O.lt);have P6:=hBr.trans (h45.mono hBr.size);have QC:=ah Jl;have hnb:bx<bb:=by omega
   clear P5 hU' hpl' AZ h45 Jl jns jkL YV f0 f1 f2 f3 f4 f5;by_cases hc1:c1=0
   ·subst hc1;obtain⟨q0,q1,q2,q3,q4,q5,q6⟩:=QC.O.cells;go_wp2_with (refine dB (.tmp 5) (.tmp 29) V V2 rfl hb5.O rfl TS (λw7 DR LC=>?_);refine aW ?_)
    unfold Hid;have hU7:=ah (show Lu w.heap.size V2 p (wL p (l.take (k+1)) (begin p)) w7 by
     rw[jad.O,aB trivial];exact .inl ⟨Xv.O.keptBy LC hb5.O.blk (by decide) (by decide) (by decide) (by decide) (by decide) (by decide),hs1.O⟩)
    have jnj:=ah (jnl.O.grown LC (by intro he;injection he with he;omega))
    have jnT:=ah (jk5.O.grown LC (by intro he;injection he with he;omega))
    have YW:=P6.grown LC P6.size (λj hj=>by injection hj with hj;omega)
    have SY:=ah DR;clear q0 q1 q2 q3 q4 q5 q6 DR LC hb5 hU5 jnl jk5 P6 Xv QC jad TS;go_wp2_with fail;go_roundw
    case rel=>exact⟨k+1,V2,by omega,by go_num,SY.O,hU7.O,jnj.O,jnT.O,YW⟩
    case measure=>simp[RowKit.intOf];omega
   ·have hc1':(c1==0)=false:=by simpa using hc1
    have hU7:=ah (show Lu w.heap.size V p (wL p (l.take (k+1)) (begin p)) w5 by
     rw[jad.O,ay hc1];exact hU5.O)
    clear hc1 jad hU5 Xv QC;go_wp2_with fail;go_roundw
    case rel=>exact⟨k+1,V,by omega,by go_num,hb5.O,hU7.O,jnl.O,jk5.O,P6⟩
    case measure=>simp[RowKit.intOf];omega
  ·obtain rfl:k=l.length:=by omega
   rw[fG]at hU'
   have hmd:=hU'.O.made;have hone:=hmd.one;obtain⟨b0,b1,b2,b3,b4,b5,b6⟩:=P5.O.cells;go_wp2_with (refine dB (.tmp 4) (.tmp 30) dH V rfl AZ.O rfl hone (λw9 dM je=>?_))
   have hU9:=ah (hU'.O.kept je AZ.O);obtain⟨p0,p1,p2,p3,p4,p5,p6⟩:=jk.cells dM;have dN:=Below.gB hBr je;clear b0 b1 b2 b3 b4 b5 b6;go_wp2_with fail;exact fD (v:=V.val) (by simp[results,results35,go_sem,SV.val,p0,p1,p2,p3,p4,p5,p6]) rfl ⟨V,rfl,hU9.O,dN⟩
end Wh
namespace Wh
open Go Go.RowKit Go.ChangeShapes Go.WideShapes Go.Deep
theorem cell_lt{w:World}{a:Addr}{v:Value}(h:w.cell? a=some v):a.block<w.heap.size:=by
 by_cases hlt:a.block<w.heap.size
 ·exact hlt
 ·unfold World.cell? at h
  rw[fZ (by omega)]at h
  simp at h
section
variable {H:Type} {en:TypeId×Value→H} {P:Program} {w:World} {aO:Nat} {sp:Nat→Bool} {hd:Bool}
def Rd(en:TypeId×Value->H)(P:Program)(w:World)(aO:Nat)(sp:Nat->Bool)(hd:Bool)(t:TypeId)(cs:List Value):Prop:=
 ∃(n:Nat) (x:DataW H×List MemPlace),DataW.trod en P w aO sp hd n t cs=some x/\∀k∈x.1.weights P t,k<=reachBytes
theorem Rd.int{t:TypeId}{cs:List Value}(ht:P.underlying t=some (.int .i64))(h:Rd en P w aO sp hd t cs):∃n,cs=[.int .i64 n]:=by
 obtain⟨n,x,h,_⟩:=h;obtain⟨m,hm,_⟩:=DataW.trod_int ht h;exact⟨m,hm⟩
theorem Rd.bool{t:TypeId}{cs:List Value}(ht:P.underlying t=some .bool)(h:Rd en P w aO sp hd t cs):∃b,cs=[.bool b]:=by
 obtain⟨n,x,h,_⟩:=h;obtain⟨m,hm,_⟩:=DataW.trod_bool ht h;exact⟨m,hm⟩
theorem Rd.fields{t:TypeId}{fs:Array Field}{cs:List Value}(hs:P.underlying t=some (.struct fs))(hone:oneCellFields P fs=true)(hC:P.cellsOf t=fs.size)(h:Rd en P w aO sp hd t cs):
  cs.length=fs.size/\∀(j:Nat) (f:Field),fs[j]?=some f->∃v,cs[j]?=some v/\Rd en P w aO sp hd f.type [v]:=by
 obtain⟨n,x,h,hw⟩:=h;obtain⟨xs,m,_,hx,kD,hxl,hf⟩:=DataW.trod_struct hs h;rw[hC]at kD
 refine⟨kD,λj f hj=>?_⟩
 have hjl:j<fs.size:=(bJ.1 hj).1
 obtain⟨ho,hk⟩:=hone_of hone j f hj;have h1:=hf j f hj;rw[ho,hk,jE (by omega)]at h1
 have hys:xs[j]?=some (xs[j]'(by omega)):=bf (by omega)
 refine⟨cs[j]'(by omega),bf (by omega),m,xs[j]'(by omega),by rw[<- hys,<- h1];rfl,λk hkm=>hw k ?_⟩
 rw[hx];simp only[DataW.weights,hs];refine Af (j:=j) (t:=f.type) (d:=(xs[j]'(by omega)).1) ?_ ?_ k hkm
 ·rw[iZ,Bq,hj];rfl
 ·rw[iZ,hys];rfl
theorem MV{e:TypeId}:∀ {ds:List (DataW H)} {j:Nat} {d:DataW H},ds[j]?=some d->∀n∈d.weights P e,n∈DataW.weightsAll P e ds
 |d0::ds,0,d,hd,n,hn=>by
  simp only[oN,mZ]at hd
  subst hd;simp only[DataW.weightsAll,jT];exact Or.inl hn
 |d0::ds,j+1,d,hd,n,hn=>by
  simp only[vw]at hd
  simp only[DataW.weightsAll,jT];exact Or.inr (MV hd n hn)
 |[],_,_,hd,_,_=>by simp at hd
theorem Rd.slice{t e:TypeId}{k:Nat}{cs:List Value}(ht:P.underlying t=some (.slice e))(hC:P.cellsOf e=k)(hB:0<P.bytesOf e)(h:Rd en P w aO sp hd t cs):
  ∃(A:Option Addr) (len c:Nat),cs=[.slice A len c]/\len<=140737488355232/\
   ∀i,i<len->∃cs',cs'.length=k/\Rd en P w aO sp hd e cs'/\∀j v,cs'[j]?=some v->okA A/\jd A<w.heap.size/\w.cell? ⟨jd A,ou A+(i*k+j),none⟩=some v:=by
 obtain⟨n,x,h,hw⟩:=h;rcases open_slice ht h with⟨rfl,_⟩|⟨a,len,cap,m,n',D,Pl,rfl,_,hl,_,hm,hx,hi⟩
 ·exact⟨none,0,0,rfl,by omega,λi hi=>by omega⟩
 ·have hlm:len<=m:=by rw[hm];split<;>omega
  have hreach:(len+(m - len))*P.bytesOf e<=reachBytes:=hw _ (by rw[hx];simp[DataW.weights,ht])
  have hspot:0<len->0<k->a.spot=none:=λh1 h2=>by
   obtain⟨cs',hc,_⟩:=hi 0 (by omega)
   rw[hC]at hc
   obtain⟨_,hcl,hat⟩:=World.cells?_some hc
   have yu:=hat 0 h2;rw[bf (by omega),add_add]at yu
   have:=World.cell?_spot yu
   simpa[Addr.add]using this
  refine⟨some a,len,cap,rfl,?_,λi hi'=>?_⟩
  ·have h1:len*1<=(len+(m - len))*P.bytesOf e:=uV (by omega) hB
   simp only[reachBytes]at hreach
   omega
  ·obtain⟨cs',hc,ht'⟩:=hi i (by omega)
   rw[hC]at hc
   obtain⟨_,hcl,hat⟩:=World.cells?_some hc
   refine⟨cs',hcl,⟨n',_,ht',λq hq=>hw q ?_⟩,λj v hj=>?_⟩
   ·rw[hx];simp only[DataW.weights,ht,jM,jT];refine .inr (.inl (MV (j:=i) (d:=D i) ?_ q hq))
    rw[iZ,nD hi'];rfl
   ·have hjl:j<k:=by rw[<- hcl];exact(eF.1 hj).1
    have yu:=hat j hjl;rw[hj,add_add]at yu
    obtain⟨b,off,spot⟩:=a;obtain rfl:spot=none:=hspot (by omega) (by omega)
    rw[gU]at yu
    exact⟨VG _ _,cell_lt (a:=⟨b,off+(i*k+j),none⟩) yu,yu⟩
theorem Rd.sl{α:Type}{enc:α->List Value}{k:Nat}{t e:TypeId}{cs:List Value}[Inhabited α](ht:P.underlying t=some (.slice e))(hC:P.cellsOf e=k)(hB:0<P.bytesOf e)(hk:∀x,(enc x).length=k)(h0:0<k)
  (hel:∀cs',cs'.length=k->Rd en P w aO sp hd e cs'->∃x:α,cs'=enc x) (h:Rd en P w aO sp hd t cs):∃v l,cs=[v]/\Sl enc w w.heap.size v l:=by
 obtain⟨A,len,c,rfl,kD,hi⟩:=h.slice ht hC hB;obtain⟨X,hX⟩:=choose_lt (α:=α) (n:=len) (p:=λi x=>∀j v,(enc x)[j]?=some v->okA A/\jd A<w.heap.size/\w.cell? ⟨jd A,ou A+(i*k+j),none⟩=some v) (λi hil=>by
  obtain⟨cs',h1,h2,h3⟩:=hi i hil;obtain⟨x,rfl⟩:=hel cs' h1 h2;exact⟨x,h3⟩)
 refine⟨_,(List.range len).map X,rfl,A,c,by simp,by simpa using kD,λhn=>?_⟩
 have yu:∀j v,(((List.range len).map X).flatMap enc)[j]?=some v->okA A/\jd A<w.heap.size/\w.cell? ⟨jd A,ou A+j,none⟩=some v:=λj v hj=>by
  have hjl:j<len*k:=by
   have:=(eF.1 hj).1
   rw[kL enc k hk]at this
   simpa using this
  have hq:j / k<len:=(Nat.div_lt_iff_lt_mul h0).2 hjl;have e1:j / k*k+j%k=j:=by rw[Nat.mul_comm];exact Nat.div_add_mod j k
  have e2:=KZ enc k hk ((List.range len).map X) (j / k) (j%k) (X (j / k)) (by rw[iZ,nD hq];rfl) (Nat.mod_lt _ h0)
  rw[e1,hj]at e2
  have:=hX (j / k) hq (j%k) v e2.symm;rwa [e1]at this
 have hlp:0<(((List.range len).map X).flatMap enc).length:=List.length_pos_iff.2 hn;obtain⟨h1,h2,_⟩:=yu 0 _ (bf hlp)
 exact⟨h1,h2,λj v hj=>(yu j v hj).2.2⟩
end
end Wh
namespace Wh
open Go Go.RowKit Go.ChangeShapes Go.WideShapes Go.Deep Go.Proofs Tryz
instance:Inhabited Bin:=⟨⟨false,0,0,0⟩⟩
instance:Inhabited dZ:=⟨⟨0,0,0,0⟩⟩
def structFields(P:Program)(t:TypeId):Array Field:=match P.underlying t with
 |some (.struct fs)=>fs
 |_=>#[]
theorem EU{P:Program}{t:TypeId}(h:(match P.underlying t with|some (.struct _)=>true|_=>false)=true):P.underlying t=some (.struct (structFields P t)):=by
 unfold structFields;split at h
 ·rename_i h';rw[h']
 ·cases h
theorem JF:prog.underlying 3=some (.int .i64):=by kernel_rfl
theorem jmB:prog.underlying 4=some .bool:=by kernel_rfl
theorem jmA:prog.underlying 23=some (.slice 3):=by kernel_rfl
theorem jmC:prog.underlying 22=some (.slice 125):=by kernel_rfl
theorem jsm:prog.cellsOf 3=1:=by kernel_rfl
theorem jsw:0<prog.bytesOf 3:=kQ (by kernel_rfl)
theorem jsx:0<prog.bytesOf 125:=kQ (by kernel_rfl)
theorem jeQ:prog.underlying 125=some (.struct (structFields prog 125)):=EU (by kernel_rfl)
theorem jeZ:oneCellFields prog (structFields prog 125)=true:=by kernel_rfl
theorem je1:(structFields prog 125).size=4:=by kernel_rfl
theorem jcH:prog.cellsOf 125=4:=by kernel_rfl
theorem jfq:(structFields prog 125).toList.map (·.type)=[4,3,3,3]:=by kernel_rfl
theorem jdh:prog.underlying 25=some (.struct (structFields prog 25)):=EU (by kernel_rfl)
theorem jhG:oneCellFields prog (structFields prog 25)=true:=by kernel_rfl
theorem jhI:(structFields prog 25).size=2:=by kernel_rfl
theorem jeC:prog.cellsOf 25=2:=by kernel_rfl
theorem jjq:(structFields prog 25).toList.map (·.type)=[22,23]:=by kernel_rfl
section
variable {H:Type} {en:TypeId×Value→H} {w:World} {aO:Nat} {sp:Nat→Bool} {hd:Bool}
theorem Rd.field{P:Program}{t:TypeId}{fs:Array Field}{cs:List Value}{ts:List TypeId}(hs:P.underlying t=some (.struct fs))(hone:oneCellFields P fs=true)(hC:P.cellsOf t=fs.size)(hf:fs.toList.map (·.type)=ts)
  (h:Rd en P w aO sp hd t cs) (j:Nat) (t':TypeId) (hj:ts[j]?=some t'):∃v,cs[j]?=some v/\Rd en P w aO sp hd t' [v]:=by
 subst hf;rw[iZ,Bq]at hj
 obtain⟨f,hf,rfl⟩:=Option.map_eq_some_iff.1 hj;exact(h.fields hs hone hC).2 j f hf
abbrev Rt(en:TypeId×Value->H)(w:World)(aO:Nat)(sp:Nat->Bool)(hd:Bool)(t:TypeId)(cs:List Value):Prop:=Rd en prog w aO sp hd t cs
theorem Rt.ints{cs:List Value}(h:Rt en w aO sp hd 23 cs):∃v l,cs=[v]/\Sl jJ w w.heap.size v l:=
 Rd.sl jmA jsm jsw (λ_=>rfl) (by decide) (λcs' _ h=>h.int JF) h
theorem Rt.bin{cs:List Value}(hl:cs.length=4)(h:Rt en w aO sp hd 125 cs):∃b,cs=PG b:=by
 match cs,hl with
 |[v0,v1,v2,v3],_=>
  obtain⟨x0,e0,r0⟩:=h.field jeQ jeZ (jcH.trans je1.symm) jfq 0 _ rfl;obtain⟨x1,e1,r1⟩:=h.field jeQ jeZ (jcH.trans je1.symm) jfq 1 _ rfl;obtain⟨x2,e2,r2⟩:=h.field jeQ jeZ (jcH.trans je1.symm) jfq 2 _ rfl;obtain⟨x3,e3,r3⟩:=h.field jeQ jeZ (jcH.trans je1.symm) jfq 3 _ rfl;obtain rfl:=dQ e0;obtain rfl:=dQ e1;obtain rfl:=dQ e2;obtain rfl:=dQ e3;obtain⟨b0,q0⟩:=r0.bool jmB;obtain⟨b1,q1⟩:=r1.int JF;obtain⟨b2,q2⟩:=r2.int JF;obtain⟨b3,q3⟩:=r3.int JF;obtain rfl:=(fM q0).1;obtain rfl:=(fM q1).1;obtain rfl:=(fM q2).1;obtain rfl:=(fM q3).1;exact⟨⟨b0,b1,b2,b3⟩,rfl⟩
theorem Rt.bQ{cs:List Value}(h:Rt en w aO sp hd 22 cs):∃v l,cs=[v]/\Sl PG w w.heap.size v l:=
 Rd.sl jmC jcH jsx (λ_=>rfl) (by decide) (λ_ hl h=>Rt.bin hl h) h
theorem Rt.plan{cs:List Value}(hl:cs.length=2)(h:Rt en w aO sp hd 25 cs):∃v0 v1 p,cs=[v0,v1]/\mW w w.heap.size (.agg #[v0,v1]) p:=by
 match cs,hl with
 |[v0,v1],_=>
  obtain⟨x0,e0,r0⟩:=h.field jdh jhG (jeC.trans jhI.symm) jjq 0 _ rfl;obtain⟨x1,e1,r1⟩:=h.field jdh jhG (jeC.trans jhI.symm) jjq 1 _ rfl;obtain rfl:=dQ e0;obtain rfl:=dQ e1;obtain⟨_,l0,q0,hs0⟩:=Rt.bQ r0;obtain⟨_,l1,q1,hs1⟩:=Rt.ints r1;obtain rfl:=(fM q0).1;obtain rfl:=(fM q1).1;exact⟨_,_,⟨l0,l1⟩,rfl,_,_,rfl,hs0,hs1⟩
theorem rd_of{P:Program}{ts:List TypeId}{ds:List (DataW H)}{j:Nat}{t:TypeId}{v:Value}{d:DataW H}{ps:List MemPlace}(hsz:(DataW.weightsEach P ts ds).all (·<=reachBytes)=true)(ht:ts[j]?=some t)(hds:ds[j]?=some d)
  (h:DataW.Trod en P w aO sp hd t v d ps):Rd en P w aO sp hd t v.cells.toList:=by
 obtain⟨n,hn⟩:=h;exact⟨n,_,hn,λk hk=>by simpa using aX.1 hsz _ (Af ht hds k hk)⟩
theorem plan_of{b0:Nat}{r:Reach}{v:Value}(hv:Value.okWide prog w r b0 25 v)(h:Rt en w aO sp hd 25 v.cells.toList):∃p,mW w w.heap.size v p:=by
 obtain⟨cs,rfl,hsz⟩:=okWide_struct jdh hv;obtain⟨l⟩:=cs;obtain⟨v0,v1,p,e,hp⟩:=Rt.plan (by simpa[Value.cells]using hsz.trans jeC) h
 have e':l=[v0,v1]:=by simpa[Value.cells]using e
 subst e';exact⟨p,hp⟩
end
end Wh
namespace Wh
open Go Go.RowKit Go.ChangeShapes Go.WideShapes Go.Deep Go.Proofs Tryz
section
variable {H:Type} {en:TypeId×Value→H} {w:World} {aO:Nat} {sp:Nat→Bool} {hd:Bool}
theorem Rt.Tf{t:TypeId}(s_t:prog.underlying t=some (.struct (structFields prog t)))(o_t:oneCellFields prog (structFields prog t)=true)(c_t:prog.cellsOf t=(structFields prog t).size)
  (f_t:(structFields prog t).toList.map (·.type)=[3,3,3,3]) {cs:List Value} (hl:cs.length=4) (h:Rt en w aO sp hd t cs):∃a b c d:Int,cs=[.int .i64 a,.int .i64 b,.int .i64 c,.int .i64 d]:=by
 match cs,hl with
 |[v0,v1,v2,v3],_=>
  obtain⟨x0,e0,r0⟩:=h.field s_t o_t c_t f_t 0 _ rfl;obtain⟨x1,e1,r1⟩:=h.field s_t o_t c_t f_t 1 _ rfl;obtain⟨x2,e2,r2⟩:=h.field s_t o_t c_t f_t 2 _ rfl;obtain⟨x3,e3,r3⟩:=h.field s_t o_t c_t f_t 3 _ rfl;obtain rfl:=dQ e0;obtain rfl:=dQ e1;obtain rfl:=dQ e2;obtain rfl:=dQ e3;obtain⟨b0,q0⟩:=r0.int JF;obtain⟨b1,q1⟩:=r1.int JF;obtain⟨b2,q2⟩:=r2.int JF;obtain⟨b3,q3⟩:=r3.int JF;obtain rfl:=(fM q0).1;obtain rfl:=(fM q1).1;obtain rfl:=(fM q2).1;obtain rfl:=(fM q3).1;exact⟨b0,b1,b2,b3,rfl⟩
end
end Wh
namespace Wh
open Go Go.RowKit Go.ChangeShapes Go.WideShapes Go.Deep Go.Proofs Tryz
instance:Inhabited Line:=⟨Lc⟩
instance:Inhabited Move:=⟨Ox⟩
instance:Inhabited Order:=⟨Gw⟩
theorem jj9:prog.underlying 32=some (.slice 44):=by kernel_rfl
theorem joA:0<prog.bytesOf 44:=kQ (by kernel_rfl)
theorem jmI:prog.underlying 44=some (.struct (structFields prog 44)):=EU (by kernel_rfl)
theorem jmU:oneCellFields prog (structFields prog 44)=true:=by kernel_rfl
theorem jmX:(structFields prog 44).size=4:=by kernel_rfl
theorem jjG:prog.cellsOf 44=4:=by kernel_rfl
theorem jor:(structFields prog 44).toList.map (·.type)=[3,3,3,3]:=by kernel_rfl
section
variable {H:Type} {en:TypeId×Value→H} {w:World} {aO:Nat} {sp:Nat→Bool} {hd:Bool}
theorem Rt.aG{cs:List Value}(hl:cs.length=4)(h:Rt en w aO sp hd 44 cs):∃x,cs=kP x:=by
 obtain⟨a,b,c,d,rfl⟩:=Rt.Tf jmI jmU (jjG.trans jmX.symm) jor hl h;exact⟨⟨a,b,c,d⟩,rfl⟩
theorem Rt.aH{cs:List Value}(h:Rt en w aO sp hd 32 cs):∃v l,cs=[v]/\Sl kP w w.heap.size v l:=
 Rd.sl jj9 jjG joA (λ_=>rfl) (by decide) (λ_ hl h=>Rt.aG hl h) h
end
end Wh
namespace Wh
open Go Go.RowKit Go.ChangeShapes Go.WideShapes Go.Deep Go.Proofs Tryz
theorem Vl:prog.underlying 34=some (.struct (structFields prog 34)):=EU (by kernel_rfl)
theorem YF:oneCellFields prog (structFields prog 34)=true:=by kernel_rfl
theorem YI:(structFields prog 34).size=6:=by kernel_rfl
theorem Xn:prog.cellsOf 34=6:=by kernel_rfl
theorem Y5:(structFields prog 34).toList.map (·.type)=[3,3,3,3,3,32]:=by kernel_rfl
section
variable {H:Type} {en:TypeId×Value→H} {w:World} {aO:Nat} {sp:Nat→Bool} {hd:Bool}
theorem Rt.act{cs:List Value}(hl:cs.length=6)(h:Rt en w aO sp hd 34 cs):∃x,Ur w w.heap.size (.agg cs.toArray) x:=by
 match cs,hl with
 |[v0,v1,v2,v3,v4,v5],_=>
  obtain⟨x0,e0,r0⟩:=h.field Vl YF (Xn.trans YI.symm) Y5 0 _ rfl;obtain⟨x1,e1,r1⟩:=h.field Vl YF (Xn.trans YI.symm) Y5 1 _ rfl;obtain⟨x2,e2,r2⟩:=h.field Vl YF (Xn.trans YI.symm) Y5 2 _ rfl;obtain⟨x3,e3,r3⟩:=h.field Vl YF (Xn.trans YI.symm) Y5 3 _ rfl;obtain⟨x4,e4,r4⟩:=h.field Vl YF (Xn.trans YI.symm) Y5 4 _ rfl;obtain⟨x5,e5,r5⟩:=h.field Vl YF (Xn.trans YI.symm) Y5 5 _ rfl;obtain rfl:=dQ e0;obtain rfl:=dQ e1;obtain rfl:=dQ e2;obtain rfl:=dQ e3;obtain rfl:=dQ e4;obtain rfl:=dQ e5;obtain⟨b0,q0⟩:=r0.int JF;obtain⟨b1,q1⟩:=r1.int JF;obtain⟨b2,q2⟩:=r2.int JF;obtain⟨b3,q3⟩:=r3.int JF;obtain⟨b4,q4⟩:=r4.int JF;obtain⟨_,l5,q5,hs5⟩:=Rt.aH r5;obtain rfl:=(fM q0).1;obtain rfl:=(fM q1).1;obtain rfl:=(fM q2).1;obtain rfl:=(fM q3).1;obtain rfl:=(fM q4).1;obtain rfl:=(fM q5).1;exact⟨⟨b0,b1,b2,b3,b4,l5⟩,_,rfl,hs5⟩
end
end Wh
namespace Wh
open Go Go.RowKit Go.ChangeShapes Go.WideShapes Go.Deep Go.Proofs Tryz
theorem jjv:prog.bytesOf 44=32:=by kernel_rfl
section
variable {H:Type} {en:TypeId×Value→H} {w:World} {aO:Nat} {sp:Nat→Bool} {hd:Bool}
theorem Rd.weigh{P:Program}{t e:TypeId}{cs:List Value}(ht:P.underlying t=some (.slice e))(h:Rd en P w aO sp hd t cs):∃(A:Option Addr) (len c:Nat),cs=[.slice A len c]/\len*P.bytesOf e<=reachBytes:=by
 obtain⟨n,x,h,hw⟩:=h;rcases open_slice ht h with⟨rfl,_⟩|⟨a,len,cap,m,n',D,Pl,rfl,_,hl,_,hm,hx,hi⟩
 ·exact⟨none,0,0,rfl,by rw[DU];exact aK _⟩
 ·have hreach:(len+(m - len))*P.bytesOf e<=reachBytes:=hw _ (by rw[hx];simp[DataW.weights,ht])
  exact⟨some a,len,cap,rfl,aY (mY _ (by omega)) hreach⟩
theorem Rt.jpr{cs:List Value}(hl:cs.length=6)(h:Rt en w aO sp hd 34 cs):∃x,Ur w w.heap.size (.agg cs.toArray) x/\x.aH.length<=4398046511104:=by
 obtain⟨x,hx⟩:=Rt.act hl h;match cs,hl with
 |[v0,v1,v2,v3,v4,v5],_=>
  obtain⟨x5,e5,r5⟩:=h.field Vl YF (Xn.trans YI.symm) Y5 5 _ rfl;obtain rfl:=dQ e5;obtain⟨A,len,c,q5,kD⟩:=Rd.weigh jj9 r5;obtain rfl:=(fM q5).1;refine⟨x,hx,?_⟩
  obtain⟨vl,e,A',c',hv,_⟩:=hx;rw[hv]at e
  injection e with e
  simp only[Array.mk.injEq,List.cons.injEq,mD]at e
  obtain⟨_,_,_,_,_,e6⟩:=e;injection e6 with _ e7 _
  rw[jjv]at kD
  simp only[reachBytes]at kD
  omega
end
end Wh
namespace Wh
open Go Go.RowKit Go.ChangeShapes Go.WideShapes Go.Deep Go.Proofs Tryz
section
variable {H:Type} {en:TypeId×Value→H} {w:World} {aO:Nat} {sp:Nat→Bool} {hd:Bool}
theorem Rd.cap{P:Program}{t e:TypeId}{cs:List Value}(ht:P.underlying t=some (.slice e))(h:Rd en P w aO sp hd t cs):∃(A:Option Addr) (len c:Nat),cs=[.slice A len c]/\len<=c:=by
 obtain⟨n,x,h,hw⟩:=h;rcases open_slice ht h with⟨rfl,_⟩|⟨a,len,cap,m,n',D,Pl,rfl,_,hl,_⟩
 ·exact⟨none,0,0,rfl,au _⟩
 ·exact⟨some a,len,cap,rfl,hl⟩
end
end Wh
namespace Wh
open Go Go.RowKit Go.ChangeShapes Go.WideShapes Go.Deep Go.Proofs Tryz
theorem jig:prog.underlying 63=some (.slice 34):=by kernel_rfl
theorem jud:0<prog.bytesOf 34:=kQ (by kernel_rfl)
def jj0(w:World)(v:Value)(l:List yK):Prop:=∃A c,v=.slice A l.length c/\l.length<=140737488355232/\l.length<=c/\jcR w w.heap.size A l/\∀x∈l,x.aH.length<=4398046511104
section
variable {H:Type} {en:TypeId×Value→H} {w:World} {aO:Nat} {sp:Nat→Bool} {hd:Bool}
theorem Rt.acts{cs:List Value}(h:Rt en w aO sp hd 63 cs):∃v l,cs=[v]/\jj0 w v l:=by
 obtain⟨A',len',c',e0,hcap⟩:=Rd.cap jig h;obtain⟨A,len,c,rfl,kD,hi⟩:=Rd.slice jig Xn jud h;injection(fM e0).1 with _ e1 e2
 subst e1 e2;have hinh:Inhabited yK:=⟨⟨0,0,0,0,0,[]⟩⟩;obtain⟨X,hX⟩:=choose_lt (α:=yK) (n:=len) (p:=λi x=>x.aH.length<=4398046511104/\∃A2 c2,okA A/\jd A<w.heap.size/\w.cell? ⟨jd A,ou A+i*6,none⟩=some (.int .i64 x.dW)/\w.cell? ⟨jd A,ou A+i*6+1,none⟩=some (.int .i64 x.a)/\w.cell? ⟨jd A,ou A+i*6+2,none⟩=some (.int .i64 x.b)/\
   w.cell? ⟨jd A,ou A+i*6+3,none⟩=some (.int .i64 x.c)/\w.cell? ⟨jd A,ou A+i*6+4,none⟩=some (.int .i64 x.n)/\w.cell? ⟨jd A,ou A+i*6+5,none⟩=some (.slice A2 x.aH.length c2)/\Sl kP w w.heap.size (.slice A2 x.aH.length c2) x.aH) (λi hil=>by
  obtain⟨cs',h1,h2,h3⟩:=hi i hil;obtain⟨x,⟨vl,e,hs⟩,hl⟩:=Rt.jpr h1 h2;have hs':=hs;obtain⟨A2,c2,rfl,_⟩:=hs;have e':cs'=[.int .i64 x.dW,.int .i64 x.a,.int .i64 x.b,.int .i64 x.c,.int .i64 x.n,.slice A2 x.aH.length c2]:=by
   injection e with e
   simpa using kX Array.toList e
  subst e';exact⟨x,hl,A2,c2,(h3 0 _ rfl).1,(h3 0 _ rfl).2.1,(h3 0 _ rfl).2.2,by rw[Ci];exact(h3 1 _ rfl).2.2,by rw[Ci];exact(h3 2 _ rfl).2.2,by rw[Ci];exact(h3 3 _ rfl).2.2,by rw[Ci];exact(h3 4 _ rfl).2.2,by rw[Ci];exact(h3 5 _ rfl).2.2,hs'⟩)
 have hln:((List.range len).map X).length=len:=by simp
 refine⟨_,(List.range len).map X,rfl,A,c,by rw[hln],by rw[hln];exact kD,by rw[hln];exact hcap,λk hk=>?_,λx hx=>?_⟩
 ·have e:((List.range len).map X)[k]=X k:=by simp
  rw[hln]at hk
  obtain⟨_,A2,c2,hX⟩:=hX k hk;rw[e];exact⟨A2,c2,hX⟩
 ·obtain⟨i,hi,rfl⟩:=kV.1 hx;exact(hX i (gZ.1 hi)).1
theorem acts_of{b0:Nat}{r:Reach}{v:Value}(hv:Value.okWide prog w r b0 63 v)(h:Rt en w aO sp hd 63 v.cells.toList):∃l,jj0 w v l:=by
 obtain⟨A,len,c,rfl⟩:=okWide_slice jig hv;obtain⟨v,l,e,hs⟩:=Rt.acts h;obtain rfl:Value.slice A len c=v:=by simpa[Value.cells]using e
 exact⟨l,hs⟩
end
end Wh
namespace Wh
open Go Go.RowKit Go.Shelf Go.Proofs Tryz
def chosen(c:Int)(n:Nat):Nat:=((if c<0 then -(c+1)else c).tmod n).toNat
theorem jlN(c:Int){n:Nat}(hn:0<n):chosen c n<n:=by
 unfold chosen;have h:0<=(if c<0 then -(c+1)else c):=by split<;>omega
 generalize (if c<0 then -(c+1)else c)=d at h
 have h1:=Int.tmod_lt_of_pos d (show(0:Int)<n by omega)
 have h2:=jab (n:Int) h;omega
theorem joG(w:World)(c:Int)(n:Nat)(hn:0<n)(hn2:n<=1000000000)(hc: -9223372036854775808<=c/\c<=9223372036854775807):
  Calls prog 36 #[.int .i64 c,.int .i64 n] w λe w'=>e=.returned (.int .i64 (chosen c n))/\w=w':=by
 have hne:((n:Int)==0)=false:=by simp;omega
 by_cases h:c<0
 ·have e1:((chosen c n:Nat):Int)=(-(c+1)).tmod n:=by
   unfold chosen;rw[aB h,jaH (jab _ (by omega))]
  have hw1:IntKind.i64.wrap (c+1)=c+1:=aN _ (by omega)
  have hw2:IntKind.i64.wrap (-(c+1))= -(c+1):=aN _ (by omega)
  have e2:=ah e1;clear e1;go_enter func36,ntmps36
  go_wp2_with fail;go_ret
  exact⟨iF (by rw[e2.O,Int.neg_tmod]),rfl⟩
 ·have e1:((chosen c n:Nat):Int)=c.tmod n:=by
   unfold chosen;rw[ay h,jaH (jab _ (by omega))]
  have e2:=ah e1;clear e1;go_enter func36,ntmps36
  go_wp2_with fail;go_ret
  exact⟨iF (by rw[e2.O,jaI (by omega)]),rfl⟩
end Wh
