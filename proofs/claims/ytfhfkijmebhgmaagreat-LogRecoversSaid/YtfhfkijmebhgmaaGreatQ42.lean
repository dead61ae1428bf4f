/- Texts of the claim, joined. -/
import Derived.ChangeMaps5
import Derived.Test.YtfhfkijmebhgmaaGreatQ41
set_option maxHeartbeats 20000000
set_option maxRecDepth 100000
namespace Wh
open Go Go.RowKit Go.Shelf Go.Proofs Tryz
attribute [local go_sem] aT jW jm kC
theorem logRecoversWalk(w:World)(v:Value)(p:dA)(t:List Nat)(hp:mW w w.heap.size v p)(hb:∀n∈t,n<256):
  Calls prog 10 #[v,.string (pz t)] w λe w'=>e=.returned (.bool true)/\Below w.heap.size w w':=by
 have hb':=ah hb;clear hb;obtain⟨s1,n1,e1,hre⟩:∃s1 n1 e1,sS p t=(s1,n1,e1):=⟨_,_,_,rfl⟩;obtain⟨l,k,g,hrp⟩:∃l k g,qj t=(l,k,g):=⟨_,_,_,rfl⟩;obtain⟨z,hz⟩:∃z,gQ p=z:=⟨_,rfl⟩;have jkN:=ah hre;have jng:=ah hrp;have hz':=ah hz;have jtc:=ah (show small s1=true by have:=XM p t;rwa [hre]at this)
 have jq7:=TI hrp;have hl3:=ah (PL hrp);clear hre hrp hz;obtain⟨Ab,cb,As,cs,rfl,hP',hBn,hSz,hlb,hls⟩:=sN hp;go_enter func10,ntmps10
 go_wp2_with fail;obtain⟨W0,hW0,hb0,lg,hK⟩:=jfv w p Ab cb As cs;rw[hW0];clear hW0;obtain⟨y0,y1,ty⟩:=hK.O _ (aj _ _);go_wp2_with fail;clear y0 y1 ty;refine(YN _ _ p t (hP'.O _ hb0) hb'.O).mono ?_
 rintro e W1 ⟨V1,rfl,ho1,h1⟩;rw[jkN.O]at ho1 ⊢
 simp only at ho1 ⊢
 have TS:=(ho1).one;have jiv:=vG (W1);go_wp2_with (refine dB (.tmp 5) (.tmp 18) dH V1 rfl jiv rfl TS (λw2 PZ hg2=>?_);refine aW ?_)
 unfold Hid;have S9:=qX hg2;have jee:=PZ.lt;clear TS jiv hg2;have h02:=h1.trans (S9.mono h1.size);have hB2:=hb0.trans (h02.mono hb0.size);have hv2:=ah ((ho1.below S9).view0 jtc.O);have Kz:=ah PZ;clear PZ ho1 h1 S9;generalize W1.heap.size=bx at Kz jee ⊢
 obtain⟨y0,y1,ty⟩:=hK.O _ h02;go_wp2_with fail;clear y0 y1 ty;refine(Vy _ _ p (hP'.O _ hB2)).mono ?_
 rintro e W3 ⟨rfl,h3⟩;rw[hz'.O];have h03:=h02.trans (h3.mono h02.size);have hB3:=hb0.trans (h03.mono hb0.size);have hv3:=ah (hv2.O.grow h3);have Nb:=ah (Kz.O.below h3 jee);clear hv2 Kz jee h3 h02 hB2;go_wp2_with fail;refine(jfO _ t hb'.O).mono ?_
 rintro e W4 ⟨vl,rfl,hA4,h4⟩;rw[jng.O]at hA4 ⊢
 simp only at hA4 ⊢
 obtain⟨A4,c4,rfl⟩:=hA4.isSlice;have h04:=h03.trans (h4.mono h03.size);have hB4:=hb0.trans (h04.mono hb0.size);have hv4:=ah (hv3.O.grow h4);have FY:=ah (Nb.O.below h4 Nb.O.lt);have jr7:=ah (zD.acts hA4 hl3.O);clear hv3 Nb h4 hA4 h03 hB3;by_cases hz0:z=0
 ·subst hz0;by_cases hg0:g=0
  ·subst hg0;have hr:sS p t=(wL p l (begin p),(l.length:Int),0):=by
    unfold sS;rw[ay (λh=>h hz'.O),jng.O]
    rfl
   rw[jkN.O]at hr
   obtain rfl:s1=wL p l (begin p):=kX (λr=>r.1) hr
   obtain rfl:n1=(l.length:Int):=kX (λr=>r.2.1) hr
   obtain rfl:e1=0:=kX (λr=>r.2.2) hr
   clear hr;have hnil:=vG W4;have hb5:Below W4.heap.size W4 (W4.alloc (.cells #[.slice none 0 0,.slice none 0 0,.slice none 0 0,.slice none 0 0,.slice none 0 0,.slice none 0 0,.slice none 0 0] 31)):=(aj _ _).alloc (au _) _;have hnil':=ah hnil;have hlz:W4.heap.size<(W4.alloc (.cells #[.slice none 0 0,.slice none 0 0,.slice none 0 0,.slice none 0 0,.slice none 0 0,.slice none 0 0,.slice none 0 0] 31)).heap.size:=by simp
   clear hnil;obtain⟨y0,y1,ty⟩:=hK.O _ (h04.trans (hb5.mono h04.size));go_wp2_with fail;clear y0 y1 ty;generalize W4.alloc (.cells #[.slice none 0 0,.slice none 0 0,.slice none 0 0,.slice none 0 0,.slice none 0 0,.slice none 0 0,.slice none 0 0] 31)=W5 at hnil' hb5 hlz ⊢
   have P6:=hB4.trans (hb5.mono hB4.size);have Jl:=ah (FY.O.below hb5 FY.O.lt);have hA5:=ah (jr7.O.up hb5 hb5.size);have X0:=FY.O.lt;have hvg:=ah (λW (h:Below W4.heap.size W4 W)=>hv4.O.grow h)
   have hzb:=hB4.size;have hz5:=hb5.size;clear hv4 FY hB4 jr7 h04;generalize W4.heap.size=bz at hnil' hlz X0 hvg hb5 hzb hz5 ⊢
   refine(jko _ _ p l A4 c4 (hP'.O _ P6) hz'.O hA5.O jq7).mono ?_
   rintro e W6 ⟨V6,rfl,hU6,h6⟩;have Sm:=P6.trans (h6.mono P6.size);have h46:=hb5.trans (h6.mono hz5);have lM:=ah (Jl.O.below h6 Jl.O.lt);have jit:=hnil'.O.below h6 hlz;have jq4:=aI hlz h6.size;have jrI:=ah hU6;have pq:=hU6.made.one;clear Jl h6 P6 hA5 hnil' hlz hU6 hb5;go_wp2_with (refine dB (.tmp 12) (.tmp 36) dH V6 rfl jit rfl pq (λw7 DR LC=>?_);refine aW ?_)
   unfold Hid;have YW:=Sm.grown LC Sm.size (λj hj=>by injection hj with hj;omega)
   have h47:=h46.grown LC (jh jq4) (λj hj=>by injection hj with hj;omega)
   have hv7:=ah (hvg.O _ h47);have hw7:=ah (jrI.O.kept LC jit).made.view;have SY:=ah DR;have jiU:=ah (lM.O.grown LC (by intro he;injection he with he;omega))
   clear Sm h46 lM jit jq4 jrI pq DR LC h47 hvg;go_wp2_with fail;refine(Rk _).mono ?_
   rintro e W9 ⟨rfl,h9⟩;have LD:=YW.trans (h9.mono (jc YW));have hx1:=(hv7.O).grow h9;have hx2:=(hw7.O).grow h9;obtain⟨p0,p1,p2,p3,p4,p5,p6⟩:=((jiU.O).below h9 (jiU.O).lt).cells;obtain⟨q0,q1,q2,q3,q4,q5,q6⟩:=((SY.O).below h9 (SY.O).lt).cells;go_wp2_with fail;clear p0 p1 p2 p3 p4 p5 p6 q0 q1 q2 q3 q4 q5 q6;refine(JK _ _ _ _ hx1 hx2).mono ?_
   rintro e W10 ⟨rfl,h10⟩;go_wp2_with fail;go_ret
   exact⟨rfl,LD.trans (h10.mono LD.size)⟩
  ·have hgn:(g==0)=false:=by simpa using hg0
   have hr:sS p t=(jD,0,g):=by
    unfold sS;rw[ay (λh=>h hz'.O),jng.O]
    exact aB hg0
   rw[jkN.O]at hr
   replace hr:=hr.symm;have hs1:s1=jD:=(kX (λr=>r.1) hr).symm
   have hn1:n1=0:=(kX (λr=>r.2.1) hr).symm
   have he1:e1=g:=(kX (λr=>r.2.2) hr).symm
   subst hs1 hn1 he1;clear hr;have hnil:=vG W4;have hb5:Below W4.heap.size W4 (W4.alloc (.cells #[.slice none 0 0,.slice none 0 0,.slice none 0 0,.slice none 0 0,.slice none 0 0,.slice none 0 0,.slice none 0 0] 31)):=(aj _ _).alloc (au _) _;have hnil':=ah hnil;clear hnil;go_wp2_with fail;generalize W4.alloc (.cells #[.slice none 0 0,.slice none 0 0,.slice none 0 0,.slice none 0 0,.slice none 0 0,.slice none 0 0,.slice none 0 0] 31)=W5 at hnil' hb5 ⊢
   have P6:=hB4.trans (hb5.mono hB4.size);have hv5:=ah (hv4.O.grow hb5);have hz5:=ah ((dK.zero W5 w.heap.size).view0 (by decide))
   have Jl:=ah (FY.O.below hb5 FY.O.lt);clear hv4 FY hb5 hB4;generalize W4.heap.size=bz at hnil' ⊢
   refine(Rk _).mono ?_
   rintro e W9 ⟨rfl,h9⟩;have LD:=P6.trans (h9.mono (jc P6));have hx1:=(hv5.O).grow h9;have hx2:=(hz5.O).grow h9;obtain⟨p0,p1,p2,p3,p4,p5,p6⟩:=((Jl.O).below h9 (Jl.O).lt).cells;obtain⟨q0,q1,q2,q3,q4,q5,q6⟩:=((hnil'.O).below h9 (hnil'.O).lt).cells;go_wp2_with fail;clear p0 p1 p2 p3 p4 p5 p6 q0 q1 q2 q3 q4 q5 q6;refine(JK _ _ _ _ hx1 hx2).mono ?_
   rintro e W10 ⟨rfl,h10⟩;go_wp2_with fail;go_ret
   exact⟨rfl,LD.trans (h10.mono LD.size)⟩
 ·have hzn:(z==0)=false:=by simpa using hz0
  have hr:sS p t=(jD,0,z):=by
   unfold sS;rw[hz'.O];exact aB hz0
  rw[jkN.O]at hr
  replace hr:=hr.symm;have hs1:s1=jD:=(kX (λr=>r.1) hr).symm
  have hn1:n1=0:=(kX (λr=>r.2.1) hr).symm
  have he1:e1=z:=(kX (λr=>r.2.2) hr).symm
  subst hs1 hn1 he1;clear hr;have hnil:=vG W4;have hb5:Below W4.heap.size W4 (W4.alloc (.cells #[.slice none 0 0,.slice none 0 0,.slice none 0 0,.slice none 0 0,.slice none 0 0,.slice none 0 0,.slice none 0 0] 31)):=(aj _ _).alloc (au _) _;have hnil':=ah hnil;clear hnil;go_wp2_with fail;generalize W4.alloc (.cells #[.slice none 0 0,.slice none 0 0,.slice none 0 0,.slice none 0 0,.slice none 0 0,.slice none 0 0,.slice none 0 0] 31)=W5 at hnil' hb5 ⊢
  have P6:=hB4.trans (hb5.mono hB4.size);have hv5:=ah (hv4.O.grow hb5);have hz5:=ah ((dK.zero W5 w.heap.size).view0 (by decide))
  have Jl:=ah (FY.O.below hb5 FY.O.lt);clear hv4 FY hb5 hB4;generalize W4.heap.size=bz at hnil' ⊢
  refine(Rk _).mono ?_
  rintro e W9 ⟨rfl,h9⟩;have LD:=P6.trans (h9.mono (jc P6));have hx1:=(hv5.O).grow h9;have hx2:=(hz5.O).grow h9;obtain⟨p0,p1,p2,p3,p4,p5,p6⟩:=((Jl.O).below h9 (Jl.O).lt).cells;obtain⟨q0,q1,q2,q3,q4,q5,q6⟩:=((hnil'.O).below h9 (hnil'.O).lt).cells;go_wp2_with fail;clear p0 p1 p2 p3 p4 p5 p6 q0 q1 q2 q3 q4 q5 q6;refine(JK _ _ _ _ hx1 hx2).mono ?_
  rintro e W10 ⟨rfl,h10⟩;go_wp2_with fail;go_ret
  exact⟨rfl,LD.trans (h10.mono LD.size)⟩
end Wh
namespace Wh
open Go Go.RowKit Go.ChangeShapes Go.WideShapes Go.Deep Go.Proofs Tryz
theorem u_string:prog.underlying 9=some .string:=by kernel_rfl
section
variable {H:Type} {en:TypeId×Value→H} {w:World} {aO:Nat} {sp:Nat→Bool} {hd:Bool}
end
def nums(s:ByteArray):List Nat:=s.data.toList.map UInt8.toNat
theorem bstr_nums(s:ByteArray):pz (nums s)=s:=by
 unfold pz nums;apply ByteArray.ext;simp[List.map_map,Function.comp_def]
theorem nums_lt(s:ByteArray):∀n∈nums s,n<256:=λn hn=>by
 obtain⟨b,_,rfl⟩:=kV.1 hn;exact b.toNat_lt
end Wh
