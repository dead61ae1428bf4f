/- Texts of the claim, joined. -/
import Derived.Deep.LoopGhost
import Derived.Test.YtfhfkijmebhgmaaGreatK05
import Derived.Test.YtfhfkijmebhgmaaGreatK28
set_option maxHeartbeats 20000000
set_option maxRecDepth 100000
namespace Wh
open Go Go.RowKit Go.Shelf Go.Proofs Tryz
section
variable {ops:Array Oper} {rest:List Oper} {o:Oper} {a:Act} {w:World} {Q:Exit→Act→World→Prop} {aO b:Nat} {t:TypeId} {cs:List Value} {V:SV} {s:aJ}
theorem jaP(hgd:o.guard=none)(x z:Operand)(ho:o.op=.store 3 x z)(hn:o.dst=none){k gm n c:Nat}{q:Int}(hB:Bx w aO b t cs V s)(hk:k<s.aF.length)
  (hv:V.aF=.slice (some ⟨gm,0,none⟩) n c) (ht:48≠t) (hx:a.eval x=.pointer (some ⟨gm,k*4+3,none⟩)) (hz:a.eval z=.int .i64 q)
  (h:∀w',Bx w' aO b t cs V {s with aF:=s.aF.set k {bH s.aF k with n:=q}}->Step (·=gm) w w'->wpList prog ops Q rest a w'):wpList prog ops Q (o::rest) a w:=
 jv hgd λK hK=>by
  obtain⟨g',c',cur,e1,_,e3,f0,f1,f2,f3⟩:=hB.own.bH hk;rw[hv]at e1
  injection e1 with e1
  injection e1 with e1
  injection e1 with e1
  subst e1;have hm:=hB.own.aF;rw[hv]at hm
  obtain⟨h1,h2⟩:=Own.store hm (λ_=>rfl) (i:=k) hk (show 3<4 by omega) (y:={bH s.aF k with n:=q}) (u:=.int .i64 q) (by rw[pI hk];rfl)
  rw[<- hv]at h1
  have h4:dK (w.setCell ⟨gm,k*4+3,none⟩ (.int .i64 q)) aO V {s with aF:=s.aF.set k {bH s.aF k with n:=q}}:=hB.own.IQ (by rw[hv];exact h2) h1
  have h3:=h _ ⟨hB.off e3 ht h2,h4,hB.ty⟩ (.jR h2 λk hk=>by injection hk with hk;exact hk.symm)
  have hf:=e3.frozen (k*4+3);clear h hB h1 h2 h4 f0 f1 f2 e3 hm;unfold Oper.wp;simp only[execOp,ho,hx,hz];go_simp
  exact hK _ _ h3
end
theorem Own.cap{α:Type}{enc:α->List Value}{size:Nat}{e:TypeId}{w:World}{aO:Nat}{A:Option Addr}{n c:Nat}{l:List α}(h:Own enc size e w aO (.slice A n c) l):n<=c:=by
 obtain⟨A',c',hv⟩:=h.isSlice;injection hv with _ e2 _
 rcases h.2 with⟨h1,h2⟩|⟨g,cap,cur,h1,_,_,h4,_⟩
 ·injection h1 with _ h1 _
  omega
 ·injection h1 with _ h1 h5
  omega
theorem Uu{l:List Move}{k:Nat}(hk:k<l.length)(y:Move):bH (l.set k y) k=y:=by
 rw[pI (by rw[jU];exact hk),pY]
theorem J7{α:Type}:∀(l:List α) (k:Nat) (y:α),(l.set k y).eraseIdx k=l.eraseIdx k
 |[],_,_=>rfl
 |_::_,0,_=>rfl
 |x::r,k+1,y=>by
  show x::((r.set k y).eraseIdx k)=x::r.eraseIdx k;rw[J7 r k y]
def yC(s:aJ)(b g:Nat)(t:Int):List Value:=(List.range 12).map λq:Nat=>.int .i64 (rH s b g t (q / 3:Nat) (q%3:Nat))
section
variable {p:dA} {s:aJ} {b g:Nat} {t:Int}
theorem Yc(hs:o9 p s):yC s b g 0=[.int .i64 0,.int .i64 0,.int .i64 0,.int .i64 0,.int .i64 0,.int .i64 0,.int .i64 0,.int .i64 0,.int .i64 0,.int .i64 0,.int .i64 0,.int .i64 0]:=by
 unfold yC;rw[show(List.range 12).map (λq:Nat=>Value.int .i64 (rH s b g 0 (q / 3:Nat) (q%3:Nat)))=(List.range 12).map (λ_=>Value.int .i64 0)from oM λq _=>by rw[Y7 hs]]
 rfl
theorem KE(h:∀o k:Int,rH s b g (t+1) o k=rH s b g t o k):yC s b g (t+1)=yC s b g t:=by
 unfold yC;simp only[h]
theorem OA{o k:Nat}(ho:o<4)(hk:k<3):(yC s b g t)[o*3+k]?=some (.int .i64 (rH s b g t o k)):=by
 unfold yC;have h:o*3+k<12:=by omega
 have e1:(o*3+k) / 3=o:=by omega
 have e2:(o*3+k)%3=k:=by omega
 rw[iZ,nD h]
 simp only[iH,e1,e2]
theorem Yd{a c:Nat}(hc:c<3)(h:∀o k:Nat,rH s b g (t+1) o k=rH s b g t o k+if o=a/\k=c then 1 else 0):yC s b g (t+1)=(yC s b g t).set (a*3+c) (.int .i64 (rH s b g t a c+1)):=by
 unfold yC;apply lW
 ·simp
 ·intro q h1 h2;have hq:q<12:=by simpa using h1
  rw[zS];simp only[zT,List.getElem_range];rw[h];by_cases he:a*3+c=q
  ·have e1:q / 3=a:=by omega
   have e2:q%3=c:=by omega
   rw[aB he,e1,e2,aB ⟨rfl,rfl⟩]
  ·rw[ay he,ay (by omega),jC]
end
def ctO(p:dA)(s:aJ)(b g:Nat)(jq:Int)(q:Nat):aJ:=Ba p b (λo k=>rH s b g (over s b g jq) o k) q (wM s b g jq (over s b g jq))
def U0(p:dA)(s:aJ)(b g:Nat)(jq:Int)(q k:Nat):aJ:=yY p q b (λk=>rH s b g (over s b g jq) q k) k (ctO p s b g jq q)
section
variable {p:dA} {s:aJ} {b g q:Nat} {jq:Int}
theorem jcv(hc:aQ p s=0)(f:zY p s b g jq)(hq:q<=s.ak.length):JC p b (λo' _=>o'<q) (wM s b g jq (over s b g jq)) (ctO p s b g jq q):=by
 have h:=jf hc;have hcut:=jf (Le hc f);exact Ep hcut (λo k ho hk=>by
  rw[uD]at ho
  rw[rY o ho]at hk
  exact Pm h ho hk) _ (by rw[uD];exact hq)
theorem Po(hc:aQ p s=0)(f:zY p s b g jq)(hq:q<=s.ak.length):lI p (ctO p s b g jq q)/\(ctO p s b g jq q).ak.length=s.ak.length/\∀o,o<s.ak.length->((ctO p s b g jq q).aC o).aH.length=(s.aC o).aH.length:=by
 have h:=jcv hc f hq;exact⟨h.right,by rw[h.ak,uD],λo ho=>by rw[h.aH,rY o ho]⟩
theorem Y9(hc:aQ p s=0)(f:zY p s b g jq)(hq:q<s.ak.length){k:Nat}(hk:k<(s.aC q).aH.length):rH s b g (over s b g jq) q k=0\/May (ctO p s b g jq q) q k (rH s b g (over s b g jq) q k):=
 (jcv hc f (jh hq)).may (by omega) (Pm (jf hc) hq hk)
theorem jcw(hc:aQ p s=0)(f:zY p s b g jq)(hq:q<s.ak.length){k:Nat}(hk:k<=(s.aC q).aH.length):JC p b (λo' k'=>o'=q/\k'<k) (ctO p s b g jq q) (U0 p s b g jq q k):=by
 obtain⟨h1,_,h3⟩:=Po hc f (jh hq);exact Js (b:=b) (o:=q) h1 (λk hk=>Y9 hc f hq (by rw[<- h3 q hq];exact hk)) k (by rw[h3 q hq];exact hk)
theorem jgy(hc:aQ p s=0)(f:zY p s b g jq)(hq:q<s.ak.length){k:Nat}(hk:k<=(s.aC q).aH.length):lI p (U0 p s b g jq q k)/\(U0 p s b g jq q k).ak.length=s.ak.length/\∀o,o<s.ak.length->((U0 p s b g jq q k).aC o).aH.length=(s.aC o).aH.length:=by
 obtain⟨_,h2,h3⟩:=Po hc f (jh hq);have h:=jcw hc f hq hk;exact⟨h.right,by rw[h.ak,h2],λo ho=>by rw[h.aH,h3 o ho]⟩
theorem jly(hc:aQ p s=0)(f:zY p s b g jq)(hq:q<s.ak.length){k:Nat}(hk:k<(s.aC q).aH.length)(hn:0<rH s b g (over s b g jq) q k):May (U0 p s b g jq q k) q k (rH s b g (over s b g jq) q k):=
 ((jcw hc f hq (jh hk)).may (by omega) (Y9 hc f hq hk)).resolve_left (by omega)
theorem jjD{k:Nat}(hn:¬ 0<rH s b g (over s b g jq) q k):U0 p s b g jq q (k+1)=U0 p s b g jq q k:=by
 show(qL p (U0 p s b g jq q k) q k (rH s b g (over s b g jq) q k) b).1=_;have:qL p (U0 p s b g jq q k) q k (rH s b g (over s b g jq) q k) b=(U0 p s b g jq q k,rH s b g (over s b g jq) q k):=JG (by omega)
 rw[this]
theorem jlz(hc:aQ p s=0)(f:zY p s b g jq)(hq:q<s.ak.length):U0 p s b g jq q (s.aC q).aH.length=ctO p s b g jq (q+1):=by
 show _=yY p q b _ ((ctO p s b g jq q).aC q).aH.length (ctO p s b g jq q);rw[(Po hc f (jh hq)).2.2 q hq];rfl
theorem jlw:ctO p s b g jq s.ak.length=H8 p s b g jq:=rfl
end
end Wh
namespace Wh
open Go Go.RowKit Go.Shelf Go.Proofs Tryz
attribute [local go_sem] aT jW jm kC
def ctT(W:World)(aO bx:Nat)(V:SV)(s s1:aJ)(kb:Nat)(cells:List Value)(ph:Nat)(w:World):Prop:=Vu W aO bx V s s1 ph w/\iV w kb 104 cells
theorem jgx{W w1 w2:World}{aO bx ph kb:Nat}{V:SV}{s s1:aJ}{cells:List Value}(h:ctT W aO bx V s s1 kb cells ph w1)(hb:Below w1.heap.size w1 w2):ctT W aO bx V s s1 kb cells ph w2:=
 ⟨Vt h.1 hb,h.2.below hb h.2.lt⟩
theorem jhp(w:World)(v vs:Value)(p:dA)(s:aJ)(b g n:Int)(hp:mW w w.heap.size v p)(hv:lK w w.heap.size vs s):
  Calls prog 21 #[v,vs,.int .i64 b,.int .i64 g,.int .i64 n] w (nN (count p s b g n) w):=by
 obtain⟨Ab,cb,As,cs,rfl,hP',hBn,hSz,hlb,hls⟩:=sN hp;obtain⟨A0,c0,A1,c1,A2,c2,A3,c3,A4,c4,A5,c5,A6,c6,rfl,hV,hN,hO,hH,hM,hI,hU,hX,hl0,hl1,hl2,hl3,hl4,hl5,JA⟩:=oW hv;go_enter func21,ntmps21
 go_wp2_with fail;obtain⟨W0,hW0,hb0,lg,uZ,hsE,hK,hR⟩:=yD w p s Ab cb As cs A0 c0 A1 c1 A2 c2 A3 c3 A4 c4 A5 c5 A6 c6;rw[hW0];clear hW0;obtain⟨⟨y0,y1⟩,x0,x1,x2,x3,x4,x5,x6,eP,eU⟩:=hK.O W0 (aj W0.heap.size W0);go_wp2_with fail;clear y0 y1 x0 x1 x2 x3 x4 x5 x6 eP eU;refine(Ag _ _ _ p s (hP'.O _ hb0) (hV.O _ hb0)).mono ?_
 rintro e W1 ⟨rfl,h1⟩;have hB1:=hb0.trans (h1.mono hb0.size);obtain⟨⟨y0,y1⟩,x0,x1,x2,x3,x4,x5,x6,eP,eU⟩:=hK.O W1 (h1);by_cases hc:aQ p s=0
 ·have hc':=ah hc;have hsn:=ah (kM.1 hc).1;rw[hc];clear hc;go_wp2_with fail;clear y0 y1 x0 x1 x2 x3 x4 x5 x6 eP eU;have hcnt:=hsn.O.counts;refine(Ey _ _ p b (hP'.O _ hB1) (by omega)).mono ?_
  rintro e W2 ⟨rfl,h2⟩;have h02:=h1.trans (h2.mono h1.size);have hB2:=hb0.trans (h02.mono hb0.size);obtain⟨⟨y0,y1⟩,x0,x1,x2,x3,x4,x5,x6,eP,eU⟩:=hK.O W2 (h02);cases hth:lV p b
  ·have bK:=ah (EW (g:=g) (n:=n) hc'.O (by rw[hth];rfl))
   clear hth;have fH:=hR.O _ h02;go_wp2_with (refine dB (.tmp 10) (.tmp 41) dH dH rfl fH rfl rfl (λw9 dM je=>?_))
   have dN:=Below.gB hB2 je;go_wp2_with fail;exact jo results21 dM rfl rfl (jQ bK.O dN)
  have jf8:=ah hth;clear hth;go_wp2_with fail;clear y0 y1 x0 x1 x2 x3 x4 x5 x6 eP eU;refine(Ej _ _ p g (hP'.O _ hB2) (by omega)).mono ?_
  rintro e W8 ⟨rfl,h8⟩;have DY:=h02.trans (h8.mono h02.size);have Uz:=hb0.trans (DY.mono hb0.size);obtain⟨⟨y0,y1⟩,x0,x1,x2,x3,x4,x5,x6,eP,eU⟩:=hK.O W8 (DY);cases hth:iK p g
  ·have bK:=ah (EW (n:=n) hc'.O (by rw[jf8.O,hth];rfl))
   clear hth;have fH:=hR.O _ DY;go_wp2_with (refine dB (.tmp 10) (.tmp 41) dH dH rfl fH rfl rfl (λw9 dM je=>?_))
   have dN:=Below.gB Uz je;go_wp2_with fail;exact jo results21 dM rfl rfl (jQ bK.O dN)
  have jqJ:=ah hth;clear hth;go_wp2_with fail;clear y0 y1 x0 x1 x2 x3 x4 x5 x6 eP eU;refine(oH n 0 200 _).mono ?_
  rintro e w' ⟨rfl,rfl⟩;obtain⟨⟨y0,y1⟩,x0,x1,x2,x3,x4,x5,x6,eP,eU⟩:=hK.O W8 (DY);cases hwn:cZ n 0 200
  ·have bK:=ah (EW (b:=b) (g:=g) (n:=n) hc'.O (by rw[hwn,BN]))
   clear hwn;have fH:=hR.O _ DY;go_wp2_with (refine dB (.tmp 10) (.tmp 41) dH dH rfl fH rfl rfl (λw9 dM je=>?_))
   have dN:=Below.gB Uz je;go_wp2_with fail;exact jo results21 dM rfl rfl (jQ bK.O dN)
  obtain⟨hn1,hn2⟩:=dV.1 hwn;clear hwn;obtain⟨i,rfl,hi⟩:=jaA jf8.O;obtain⟨j,rfl,hj⟩:=WL jqJ.O;clear jf8 jqJ;have hil:i<s.on.length:=by rw[hsn.O.tY];exact hi
  have hjl:j<(fO s.on i).length:=by rw[hsn.O.rowLen hi];exact hj
  have hfl:j<s.bg.length:=by rw[hsn.O.bg.1];exact hj
  have hii:(i:Int)<(s.on.length:Int):=by omega
  have hji:(j:Int)<((fO s.on i).length:Int):=by omega
  have hfi:(j:Int)<(s.bg.length:Int):=by omega
  have hcl:=hsn.O.cell hi hj;have hfx:=hsn.O.bg.2 hj;have hw1:IntKind.i64.wrap (bI s.bg j+n)=bI s.bg j+n:=aN _ (by omega)
  have hw2:IntKind.i64.wrap (bI s.bg j+n - cell s.on i j)=bI s.bg j+n - cell s.on i j:=aN _ (by omega)
  obtain⟨Ar,cr,or0,TQ,Yx,vS⟩:=(hN.O W8 Uz).row hil;obtain⟨or1,lr1,QW⟩:=vS.at_.int hjl;obtain⟨ox,lx,rx⟩:=(hX.O W8 Uz).at_.int (i:=j) hfl;change W8.cell? _=some (.int .i64 (cell s.on i j))at QW
  change W8.cell? _=some (.int .i64 (bI s.bg j))at rx
  have q1:=λo d os=>bY (w:=W8) (b:=w.heap.size+1) eP o d os
  have q2:=λo d os=>bY (w:=W8) (b:=jd A0) TQ o d os
  have q3:=λo d os=>bY (w:=W8) (b:=jd Ar) lr1 o d os
  have q4:=λo d os=>bY (w:=W8) (b:=jd A6) lx o d os
  go_wp2_with fail;refine dG (by kernel_rfl) (by kernel_rfl) ?_
  repeat(go_big_quiet_step ((go_at_call 38;refine Dn (oH _ _ _ _))))
  refine wpQuiet_nil ?_
  intro W9 hw';have Hq:=dD hw';clear hw';clear q1 q2 q3 q4 Yx QW rx;clear y0 y1 x0 x1 x2 x3 x4 x5 x6 eP eU;have h09:=DY.trans (Hq.mono DY.size);have LD:=hb0.trans (h09.mono hb0.size);obtain⟨⟨y0,y1⟩,x0,x1,x2,x3,x4,x5,x6,eP,eU⟩:=hK.O W9 (h09);cases hwf:cZ (bI s.bg j+n - cell s.on i j) (-1048576) 1048576
  ·have bK:=ah (QS (n:=n) hc'.O hi hj ⟨hn1,hn2⟩ (nU.1 hwf));clear hwf;have fH:=hR.O _ h09;go_wp2_with (refine dB (.tmp 10) (.tmp 60) dH dH rfl fH rfl rfl (λw9 dM je=>?_))
   have dN:=Below.gB LD je;go_wp2_with fail;exact jo results21 dM rfl rfl (jQ bK.O dN)
  have hf:=ah (show zY p s i j n from⟨hi,hj,hn1,hn2,(dV.1 hwf).1,(dV.1 hwf).2⟩)
  clear hwf;go_wp2_with fail;clear y0 y1 x0 x1 x2 x3 x4 x5 x6 eP eU;refine(EI _ _ p s (hV.O _ LD) hsn.O).mono ?_
  rintro e W5 ⟨_,rfl,⟨V5,rfl,AY⟩,h5⟩;have pq:=(AY).one;have xw:=vG (W5);go_wp2_with (refine dB (.tmp 13) (.tmp 62) dH V5 rfl xw rfl pq (λw6 lM Ib=>?_);refine aW ?_)
  unfold Hid;have sG:=qX Ib;have vT:=lM.lt;clear pq xw Ib;have hx6:=ah (Bx.of lM (AY.below sG));have h06:=h09.trans ((h5.trans (sG.mono h5.size)).mono h09.size);have hle:w.heap.size<=W9.heap.size:=LD.size;have hle0:W0.heap.size<=W9.heap.size:=h09.size;have zZ:W9.heap.size<=W5.heap.size:=h5.size;clear lM AY sG h5 vT h1 hB1 h02 hB2 DY Uz h8 h2 h09 LD Hq;generalize W5.heap.size=bx at hx6 zZ ⊢
  generalize W9.heap.size=aO at hx6 hle hle0 zZ
  obtain⟨gf,cf,juL,ef,jnK,hbf,rf⟩:=dK.BF hx6.O.own.bg (g:=j) hfl;obtain⟨Ic,con,PE,gr,cr',cur,Ot,Wy,Oa,r0,er,Wx,hbr,rc⟩:=hx6.O.own.Py hil hjl;have c0:=hx6.O.cells.1;have c6:=hx6.O.cells.2.2.2.2.2.2;rw[ef]at c6
  rw[Ot]at c0
  have ef':=ah ef;clear ef Ot er;go_wp2_with fail;go_still_tail 20,(by kernel_rfl)
  change wpList _ _ _ _ _ w6.drew;refine TF rfl (.tmp 82) (.tmp 81) rfl rfl (g:=j) (q:=bI s.bg j+n - cell s.on i j) hx6.O.drew hfl ef'.O rfl rfl (λw7 hx7 Ee=>?_)
  refine fC ?_
  have h07:=h06.drew.trans (Ee.below (B:=W0.heap.size) (λq hq=>by omega) h06.drew.size)
  have zx:=ah hx7;clear hx7 Ee c0 c6 rf hbf ef' jnK Wy Oa r0 Wx hbr rc hx6 h06;obtain⟨Ic,con,PE,gr,cr',cur,Ot,Wy,Oa,r0,er,Wx,hbr,rc⟩:=zx.O.own.Py (b:=i) (g:=j) hil hjl;have c0:=zx.O.cells.1;rw[Ot]at c0
  have er':=ah er;clear Ot er rc;go_wp2_with (refine GU rfl (.tmp 90) (.tmp 89) rfl rfl (i:=i) (g:=j) (q:=n) zx.O hil hjl er'.O rfl rfl (λw8 KQ AX=>?_);refine aW ?_)
  unfold Hid;have DY:=h07.trans (AX.below (B:=W0.heap.size) (λq hq=>by omega) h07.size)
  have vP:=ah KQ;clear KQ AX c0 r0 Oa Wy Wx hbr er' zx h07;go_wp2_with fail;have e0:wM s i j n 0={{s with bg:=s.bg.set j (bI s.bg j+n - cell s.on i j)}with on:=setCell s.on i j n}:=by
   unfold wM;rw[Xf hsn.O,jev hsn.O,Xe hsn.O]
  have uO:=vP.O;rw[<- e0]at uO
  clear e0;have jfj:=ah (iV.new w8 104 #[.int .i64 0,.int .i64 0,.int .i64 0,.int .i64 0,.int .i64 0,.int .i64 0,.int .i64 0,.int .i64 0,.int .i64 0,.int .i64 0,.int .i64 0,.int .i64 0]);have ha9:Below w8.heap.size w8 (w8.alloc (.cells #[.int .i64 0,.int .i64 0,.int .i64 0,.int .i64 0,.int .i64 0,.int .i64 0,.int .i64 0,.int .i64 0,.int .i64 0,.int .i64 0,.int .i64 0,.int .i64 0] 104)):=(aj _ _).alloc (au _) _;have hxa:=ah (uO.below ha9);have h0a:=DY.trans (ha9.mono DY.size);have jty:aO<=w8.heap.size:=by have:=uO.box.lt;omega
  clear uO vP ha9 DY;generalize w8.heap.size=kb at jfj jty ⊢
  generalize w8.alloc (.cells #[.int .i64 0,.int .i64 0,.int .i64 0,.int .i64 0,.int .i64 0,.int .i64 0,.int .i64 0,.int .i64 0,.int .i64 0,.int .i64 0,.int .i64 0,.int .i64 0] 104)=w9 at jfj hxa h0a ⊢
  have hr:=ah (jf hc'.O);have hbd:=EY hsn.O i j;have hov:0<=over s i j n/\over s i j n<=bound s i j:=by unfold over;omega
  have hx0:=jfj.O;rw[<- Yc (b:=i) (g:=j) hsn.O]at hx0
  have Cc:=ah hx0;clear hx0 jfj;go_loopg[15,16] (over s i j n).toNat (λgk _ _ wr=>∃(t:Int) (V:SV),gk=(over s i j n - t).toNat/\0<=t/\t<=over s i j n/\Bx wr aO bx 31 [] V (wM s i j n t)/\iV wr kb 104 (yC s i j t)/\Below W0.heap.size W0 wr)
  case atStart=>exact⟨0,_,by rw[qx],iM _,hov.1,hxa.O,Cc.O,h0a⟩
  case round=>
   obtain⟨t,V,hgk,ht0,ht1,hx,hbk,h0r⟩:=hrel;have hxr:=ah hx;have jgg:=ah hbk;have jac:=ah hgk;clear hx hbk hgk hxa Cc h0a;have hst:=ah (jjA hr.O hf.O t);have hBr:=hb0.trans (h0r.mono hb0.size);obtain⟨p0,p1,p2,p3,p4,p5,p6⟩:=hxr.O.cells;have wP:=hxr.O.lt;go_wp2_with fail;clear p0 p1 p2 p3 p4 p5 p6;refine(ZA _ _ p _ i j (hxr.O.own.view hst.O) hst.O).mono ?_
   rintro e W1 ⟨rfl,h1⟩;rw[jau hr.O ht0 (by omega)]
   by_cases hlt:n<bound s i j - t
   ·have hlt':=iG hlt;have hx1:=ah (hxr.O.below h1);have hbk1:=ah (jgg.O.below h1 jgg.O.lt);have h01:=h0r.trans (h1.mono h0r.size);clear hxr jgg h1 hBr h0r wP;obtain⟨p0,p1,p2,p3,p4,p5,p6⟩:=hx1.O.cells;have wP:=hx1.O.lt;go_wp2_with fail;clear p0 p1 p2 p3 p4 p5 p6;refine(jfP _ _ p _ i j (hx1.O.own.view hst.O) hst.O).mono ?_
    rintro e W2 ⟨rfl,h2⟩;have hx2:=ah (hx1.O.below h2);have hbk2:=ah (hbk1.O.below h2 hbk1.O.lt);have h02:=h01.trans (h2.mono h01.size);clear hx1 hbk1 h2 h01 wP hlt';generalize hsT:wM s i j n t=sT at hst hx2 ⊢
    have jdY:yN s i j t=sT.aF:=by rw[<- hsT];rfl
    have jaa:pV s i j t=sT.aA:=by rw[<- hsT];rfl
    have hsp:(Qp sT.aF i j= -1/\∀q,q<sT.aF.length->¬((bH sT.aF q).src=(i:Int)/\(bH sT.aF q).dh=(j:Int)))\/∃k:Nat,k<sT.aF.length/\Qp sT.aF i j=k/\((bH sT.aF k).src=(i:Int)/\(bH sT.aF k).dh=(j:Int))/\∀q,k<q->q<sT.aF.length->¬((bH sT.aF q).src=(i:Int)/\(bH sT.aF q).dh=(j:Int)):=PS sT.aF i j sT.aF.length;have hmeas:t<over s i j n:=by unfold over;omega
    have htb:t<bound s i j:=by omega
    clear hlt;rcases hsp with⟨he,hno⟩|⟨k,hk,he,hat,hlast⟩
    ·rw[he];clear he;have h0:∀x∈yN s i j t,¬(x.src=(i:Int)/\x.dh=(j:Int)):=λx hx=>by
      rw[jdY]at hx
      obtain⟨q,hq,rfl⟩:=aV hx;rw[<- pI hq];exact hno q hq
     have hany:=jdr hsn.O ht0 htb h0;rw[jaa]at hany
     have hkk:∀q,q<sT.aA.length->∃a c:Nat,(hold sT.aA q).aC=a/\(hold sT.aA q).aG=c/\a<s.ak.length/\c<(s.aC a).aH.length:=λq hq=>by
      have h1:=hst.O.yR hq;have h2:sT.ak.length=s.ak.length:=by rw[<- hsT,uD]
      have h3:(hold sT.aA q).aC.toNat<s.ak.length:=by omega
      have h4:(sT.aC (hold sT.aA q).aC.toNat).aH.length=(s.aC (hold sT.aA q).aC.toNat).aH.length:=by rw[<- hsT,rY _ (by rw[hsT];exact h3)]
      exact⟨(hold sT.aA q).aC.toNat,(hold sT.aA q).aG.toNat,by omega,by omega,h3,by omega⟩
     have jkY:∀q,q<sT.aA.length->(yt sT i j).is (hold sT.aA q)=(yt s i j).is (hold sT.aA q):=λq hq=>by
      obtain⟨a,c,h1,h2,h3,h4⟩:=hkk q hq;rw[<- hsT];refine DZ (by rw[hsT,h1];exact h3) (by rw[hsT,h1,h2];exact h4)
     have hsp2:(Qq sT i j= -1/\∀q,q<sT.aA.length->(yt sT i j).is (hold sT.aA q)=false)\/∃k:Nat,k<sT.aA.length/\Qq sT i j=k/\(yt sT i j).is (hold sT.aA k)=true/\∀q,k<q->q<sT.aA.length->(yt sT i j).is (hold sT.aA q)=false:=PU sT i j sT.aA.length;rcases hsp2 with⟨_,hn⟩|⟨k,hk,he,hat,hlast⟩
     ·obtain⟨x,hx,hxi⟩:=lu.1 hany;obtain⟨q,hq,rfl⟩:=aV hx;rw[<- iL hq,<- jkY q hq,hn q hq]at hxi
      cases hxi
     obtain⟨a,c,ha,hc2,hao,hcl⟩:=hkk k hk;have Z4:=jdt (jq:=n) hsn.O ht0 h0 (k:=k) (by rw[jaa];exact hk) (by rw[jaa,<- jkY k hk];exact hat) (λq hkq hq=>by rw[jaa]at hq ⊢;rw[<- jkY q hq];exact hlast q hkq hq) (by rw[jaa];exact ha) (by rw[jaa];exact hc2) hao hcl
     rw[jaa,hsT]at Z4
     have hmr:=hst.O.yR hk;have xB:=Hy hst.O.aA hk;obtain⟨a0,c0,bi,m,hxh⟩:∃a0 c0 bi m,hold sT.aA k=⟨a0,c0,bi,m⟩:=⟨_,_,_,_,rfl⟩;obtain⟨gh,ch,curh,eh,jtM,hbh,z0,z1,z2,z3⟩:=hx2.O.own.yR hk;rw[hxh]at ha hc2 Z4 hmr xB z0 z1 z2 z3
     simp only at ha hc2 Z4 hmr xB z0 z1 z2 z3
     subst ha hc2;have haT:a<sT.ak.length:=by rw[<- hsT,uD];exact hao
     have hcT:c<(sT.aC a).aH.length:=by rw[<- hsT,rY a hao];exact hcl
     have ha4:a<4:=by have:=hsn.O.qH;omega
     have hc3:c<3:=by have:=(hsn.O.tN hao).2;omega
     have hm1:1<=m/\m<=200:=by omega
     have TT:=hst.O.aG haT hcT;have hbr:0<=(sT.aG a c).dP/\(sT.aG a c).dP<=200:=by omega
     have hcn:=Dl hsn.O i j t a c;have hkr:=vK hsn.O.aA a c;have hcn2:0<=rH s i j t a c/\rH s i j t a c<=1200:=by omega
     have jbQ:=ah Z4.1;have jbP:=ah Z4.2;have he':=ah he;have eh':=ah eh;have lgh:=hbh.lt;have wP:=hx2.O.lt;have hki:(k:Int)<(sT.aA.length:Int):=by omega
     have hwn:IntKind.i64.wrap (m - 1)=m - 1:=aN _ (by omega)
     have hwb:IntKind.i64.wrap ((sT.aG a c).dP+1)=(sT.aG a c).dP+1:=aN _ (by omega)
     have hwc:IntKind.i64.wrap (rH s i j t a c+1)=rH s i j t a c+1:=aN _ (by omega)
     clear hno h0 hany hkk jkY he hat hlast Z4 hmr TT hcn hkr eh jdY jaa hsT;go_wp2_with fail;refine qZ 9 [λgq _=>gq 132=.pointer (some ⟨bx,2,none⟩),λgq _=>gq 133=.slice (some ⟨gh,0,none⟩) sT.aA.length ch,λgq _=>gq 134=.agg #[V.on,V.ak,V.aA,V.aF,V.gY,V.O,V.bg],λgq _=>gq 135=.int .i64 i,λgq _=>gq 136=.int .i64 j,λgq w'=>(λv w'=>v=.int .i64 k) (gq 137) w',λgq _=>gq 138=.pointer (some ⟨gh,k*4,none⟩),λgq _=>gq 139=.agg #[.int .i64 a,.int .i64 c,.int .i64 bi,.int .i64 m],λgq w'=>(λv w'=>∃hh,v=.pointer (some ⟨hh,0,none⟩)/\W2.heap.size<=hh/\iV w' hh 46 [.int .i64 0,.int .i64 0,.int .i64 0,.int .i64 0]) (gq 16) w'] (by kernel_rfl) (by kernel_rfl) rfl (by kernel_rfl) ?_ (λf W3 hb3 hR=>?_)
     simp only[bC,bV];refine dX.cons (iR.val rfl rfl (λgq w' hb ho hd=>?_)) ?_
     ·have e13:=ho 13 rfl;go_simp
     refine dX.cons (iR.val rfl rfl (λgq w' hb ho hd=>?_)) ?_
     ·have e132:gq 132=.pointer (some ⟨bx,2,none⟩):=hd ⟨0,.data⟩ (by simp) rfl (by decide)
      have x2:=(hx2.O.below hb).cells.2.2.1;rw[eh'.O]at x2
      go_simp
     refine dX.cons (iR.val rfl rfl (λgq w' hb ho hd=>?_)) ?_
     ·have e13:=ho 13 rfl;obtain⟨x0,x1,x2,x3,x4,x5,x6⟩:=(hx2.O.below hb).cells;go_simp
     refine dX.cons (iR.val rfl rfl (λgq w' hb ho hd=>?_)) ?_
     ·have e2:=ho 2 rfl;go_simp
     refine dX.cons (iR.val rfl rfl (λgq w' hb ho hd=>?_)) ?_
     ·have e3:=ho 3 rfl;go_simp
     refine dX.cons (iR.one (d:=137) (p:=(λv w'=>v=.int .i64 k)) rfl rfl (λv w1 w2 h hb=>h) (λgq w' hb ho hd=>?_)) ?_
     ·have e134:gq 134=.agg #[V.on,V.ak,V.aA,V.aF,V.gY,V.O,V.bg]:=hd ⟨2,.data⟩ (by simp) rfl (by decide)
      have e135:gq 135=.int .i64 i:=hd ⟨3,.data⟩ (by simp) rfl (by decide)
      have e136:gq 136=.int .i64 j:=hd ⟨4,.data⟩ (by simp) rfl (by decide)
      unfold iT;go_simp
      refine(jfQ w' _ p sT i j ((hx2.O.below hb).own.view hst.O) hst.O).mono ?_
      rintro e w2 ⟨rfl,h⟩;exact⟨_,rfl,by rw[he'.O],h⟩
     refine dX.cons (iR.val rfl rfl (λgq w' hb ho hd=>?_)) ?_
     ·have e133:gq 133=.slice (some ⟨gh,0,none⟩) sT.aA.length ch:=hd ⟨1,.data⟩ (by simp) rfl (by decide)
      have e137:(gq 137)=.int .i64 k:=hd ⟨5,.data⟩ (by simp) rfl (by decide)
      go_simp
     refine dX.cons (iR.val rfl rfl (λgq w' hb ho hd=>?_)) ?_
     ·have e138:gq 138=.pointer (some ⟨gh,k*4,none⟩):=hd ⟨6,.data⟩ (by simp) rfl (by decide)
      have u0:=(hb.cell (p:=⟨gh,k*4,none⟩) lgh).trans z0;have u1:=(hb.cell (p:=⟨gh,k*4+1,none⟩) lgh).trans z1;have u2:=(hb.cell (p:=⟨gh,k*4+2,none⟩) lgh).trans z2;have u3:=(hb.cell (p:=⟨gh,k*4+3,none⟩) lgh).trans z3;go_simp
     refine dX.cons (iR.one (d:=16) (p:=(λv w'=>∃hh,v=.pointer (some ⟨hh,0,none⟩)/\W2.heap.size<=hh/\iV w' hh 46 [.int .i64 0,.int .i64 0,.int .i64 0,.int .i64 0])) rfl rfl (λv w1 w2 h hb=>let ⟨hh,h1,h2,h3⟩:=h;⟨hh,h1,h2,h3.below hb h3.lt⟩) (λgq w' hb ho hd=>?_)) ?_
     ·unfold iT;go_simp
      exact⟨⟨hb.size,iV.new _ _ _⟩,(aj _ _).alloc (au _) _⟩
     exact dX.nil;obtain⟨jp0,jpZ,jpY,jpX,jpW,jkq,jpV,jpU,r16,_⟩:=hR;replace jkq:(f 137)=.int .i64 k:=jkq;replace r16:∃hh,(f 16)=.pointer (some ⟨hh,0,none⟩)/\W2.heap.size<=hh/\iV W3 hh 46 [.int .i64 0,.int .i64 0,.int .i64 0,.int .i64 0]:=r16;simp only[kG,zB,bC,bV,eG,gW,eX,fF,fB,gV,bM,dF,dL,jp0,jpZ,jpY,jpX,jpW,jkq,jpV,jpU];clear jp0 jpZ jpY jpX jpW jkq jpV jpU;obtain⟨hh,r16,jtH,hbl⟩:=r16;simp only[r16];clear r16;refine oI rfl 46 (.tmp 16) (.tmp 139) rfl hh #[.int .i64 a,.int .i64 c,.int .i64 bi,.int .i64 m] rfl rfl 46 _ hbl (by kernel_rfl) rfl (by simp[Value.oneCell']) ?_
     refine fC ?_
     have hb4:=DL hb3 jtH #[.int .i64 a,.int .i64 c,.int .i64 bi,.int .i64 m];have Ho:=ah (show iV (W3.setRow hh #[.int .i64 a,.int .i64 c,.int .i64 bi,.int .i64 m]) hh 46 [.int .i64 a,.int .i64 c,.int .i64 bi,.int .i64 m]from iV.row hbl [.int .i64 a,.int .i64 c,.int .i64 bi,.int .i64 m])
     generalize W3.setRow hh #[.int .i64 a,.int .i64 c,.int .i64 bi,.int .i64 m]=W4 at hb4 Ho ⊢
     have hx4:=ah (hx2.O.below hb4);have jnZ:=ah (hbk2.O.below hb4 hbk2.O.lt);have h04:=h02.trans (hb4.mono h02.size);clear hb3 hbl hb4 hbk2 hx2 z0 z1 z2 z3 hbh h02 lgh wP;have wP:=hx4.O.lt;have SN:=su hst.O.aA;have u0:=Ho.O.cell (j:=0) rfl;have u1:=Ho.O.cell (j:=1) rfl;have u2:=Ho.O.cell (j:=2) rfl;have u3:=Ho.O.cell (j:=3) rfl;have lhh:=Ho.O.lt;have x2:=hx4.O.cells.2.2.1;rw[eh'.O]at x2
     have hsl:=hx4.O.own.aA.sl (by omega)
     rw[eh'.O]at hsl
     go_wp2_with fail;clear u0 u1 u2 u3 x2;refine(jhj _ _ sT.aA a c bi (m - 1) hsl hst.O.aA xB).mono ?_
     rintro e W5 ⟨u,rfl,hu,h5⟩;obtain⟨A7,c7,rfl⟩:=hu.isSlice;have hx5:=ah (hx4.O.below h5);have hu5:=ah (hu.from_ (show aO<=W4.heap.size by omega))
     have jnY:=ah (jnZ.O.below h5 jnZ.O.lt);have jnW:=ah (Ho.O.below h5 lhh);have h05:=h04.trans (h5.mono h04.size);clear hx4 hu jnZ Ho h5 h04 hsl;go_wp2_with (refine GV rfl (.tmp 152) (.tmp 151) rfl rfl A7 _ c7 _ hx5.O rfl rfl hu5.O (λw6 hx6 NW=>?_);refine aW ?_)
     unfold Hid;have jnX:=ah (NW.blk jnY.O (jnY.O.ne hx5.O.box (by decide)))
     have vT:=ah (NW.blk jnW.O (jnW.O.ne hx5.O.box (by decide)))
     have h06:=h05.trans (NW.below (B:=W0.heap.size) (λq hq=>by omega) h05.size)
     have Wi:=ah hx6;clear hx6 NW hx5 hu5 jnY jnW h05;obtain⟨gl,cl,curl,el,hgl,jiX,f0,f1,f2,f3⟩:=Wi.O.own.gK (o:=a) (k:=c) haT hcT;obtain⟨go,co,jjB,eo,hgo,jtY,d0,d1⟩:=Wi.O.own.aU (o:=a) haT;change _=Value.slice (some ⟨gl,0,none⟩) (sT.aC a).aH.length cl at el
     have c1:=Wi.O.cells.2.1;rw[eo]at c1
     rw[el]at d1
     have el':=ah el;change w6.cell? _=some (.int .i64 (sT.aG a c).dP)at f3
     have u0:=vT.O.cell (j:=0) rfl;have u1:=vT.O.cell (j:=1) rfl;have u2:=vT.O.cell (j:=2) rfl;have u3:=vT.O.cell (j:=3) rfl;have lhh:=vT.O.lt;have wP:=Wi.O.lt;have hai:(a:Int)<(sT.ak.length:Int):=by omega
     have hci:(c:Int)<((sT.aC a).aH.length:Int):=by omega
     clear f0 f1 f2 d0 el eo;go_wp2_with fail;go_still_tail 15,(by kernel_rfl)
     change wpList _ _ _ _ _ w6.drew;refine AO rfl (.tmp 167) (.tmp 165) rfl rfl (i:=a) (k:=c) (j:=3) (y:={sT.aG a c with dP:=(sT.aG a c).dP+1}) Wi.O.drew haT hcT el'.O (by decide) rfl rfl rfl (λw7 hx7 Ee=>?_)
     refine fC ?_
     have jef:=ah (Ee.blk jnX.O.drew (jnX.O.drew.ne jiX.drew (by decide)))
     have Uy:=ah (Ee.blk vT.O.drew (vT.O.drew.ne jiX.drew (by decide)))
     have h07:=h06.drew.trans (Ee.below (B:=W0.heap.size) (λq hq=>by omega) h06.drew.size)
     have zx:=ah hx7;clear hx7 Ee Wi jnX vT h06 u0 u1 u2 u3 lhh wP f3 d1 c1 jiX jtY;have u0:=Uy.O.cell (j:=0) rfl;have u1:=Uy.O.cell (j:=1) rfl;have lhh:=Uy.O.lt;have lcb:=jef.O.lt;have hcc:=jef.O.cell (OA (s:=s) (b:=i) (g:=j) (t:=t) ha4 hc3);have ha4i:(a:Int)<4:=by omega
     have hc3i:(c:Int)<3:=by omega
     go_wp2_with fail;go_still_tail 10,(by kernel_rfl)
     change wpList _ _ _ _ _ w7.drew;refine vC rfl (.tmp 177) (.tmp 175) rfl rfl kb (a*3+c) _ (rH s i j t a c+1) rfl rfl hcc (jef.O.frozen _) (λw8 hw8=>?_)
     refine fC ?_
     obtain⟨jlb,hg8⟩:=xA jef.O.drew (a*3+c) (.int .i64 (rH s i j t a c+1));rw[hw8]at jlb hg8
     have KQ:Bx w8 aO bx 31 [] _ _:=⟨zx.O.drew.box.grown hg8 (λhe=>by injection he with he;exact(jef.O.ne zx.O.box (by decide)) he.symm),zx.O.drew.own.keptBy hg8 jef.O.drew (by decide) (by decide) (by decide) (by decide) (by decide) (by decide),zx.O.ty⟩
     rw[<- Yd hc3 jbP.O]at jlb
     have vP:=ah (show Bx w8 aO bx 31 [] _ (wM s i j n (t+1))by rw[jbQ.O];exact KQ)
     have jrt:=ah jlb;have DY:=h07.drew.grown hg8 h07.drew.size (λq hq=>by injection hq with hq;omega)
     clear u0 u1 lhh lcb hcc KQ jlb hg8 hw8 zx jef Uy h07;go_wp2_with fail;go_roundg (over s i j n - (t+1)).toNat
     case rel=>exact⟨t+1,_,rfl,by omega,by omega,vP.O,jrt.O,DY⟩
     case measure=>rw[jac.O];omega
    ·rw[he];clear he;have jik:=jds (jq:=n) hsn.O ht0 (k:=k) (by rw[jdY];exact hk) (by rw[jdY];exact hat) (by rw[jdY];exact hlast)
     rw[jdY,hsT]at jik
     have hmr:=hst.O.bH hk;obtain⟨gm,cm,curm,em,hgm,hbm,f0,f1,f2,f3⟩:=hx2.O.own.bH hk;obtain⟨mm,hmm⟩:∃mm,(bH sT.aF k).n=mm:=⟨_,rfl⟩;rw[hmm]at hmr f3 jik
     obtain⟨m0,hm0⟩:∃m0,m0=mm - 1:=⟨_,rfl⟩;rw[<- hm0]at jik
     have hm1:1<=mm/\mm<=200:=by omega
     have hwn:IntKind.i64.wrap (mm - 1)=m0:=by rw[hm0];exact aN _ (by omega)
     have hmc:sT.aF.length<=cm:=Own.cap (by have:=hx2.O.own.aF;rw[em]at this;exact this)
     have p3:=hx2.O.cells.2.2.2.1;rw[em]at p3
     have em':=ah em;have hkn:(k:Int)<(sT.aF.length:Int):=by omega
     have hml8:=hst.O.vJ;have lgm:=hbm.lt;have wP:=hx2.O.lt;have hpm:=ah jik;have jq3:=ah hm0;clear hmr f0 f1 f2 em hat hlast hmm hsT jdY jaa jik hm0;go_wp2_with (refine jaP rfl (.tmp 111) (.tmp 109) rfl rfl (k:=k) (q:=m0) hx2.O hk em'.O (by decide) rfl rfl (λw3 hx3 hst3=>?_);refine aW ?_)
     unfold Hid;obtain⟨L,hL⟩:∃L:List Move,L=sT.aF.set k {bH sT.aF k with n:=m0}:=⟨_,rfl⟩
     rw[<- hL]at hx3 hpm
     have hLl:L.length=sT.aF.length:=by rw[hL,jU]
     have hLk:(bH L k).n=m0:=by rw[hL,Uu hk]
     have hLe:L.eraseIdx k=sT.aF.eraseIdx k:=by rw[hL,J7]
     have ji0:=ah (hst3.blk hbk2.O (hbk2.O.ne hbm (by decide)))
     have h03:=h02.trans (hst3.below (B:=W0.heap.size) (λq hq=>by omega) h02.size)
     have XU:=ah hx3;clear hx3 hst3 hx2 hbk2 h02 p3 f3 hbm hL lgm wP;obtain⟨gm',cm',curm',em2,_,hbm,f0,f1,f2,f3⟩:=XU.O.own.bH (k:=k) (show k<L.length by omega)
     rw[em'.O]at em2
     injection em2 with e1 e2 e3
     injection e1 with e1
     injection e1 with e1
     subst e1;clear e2 e3 f0 f1 f2;change w3.cell? _=some (.int .i64 (bH L k).n)at f3
     rw[hLk]at f3
     have p3:=XU.O.cells.2.2.2.1;rw[em'.O]at p3
     have lgm:=hbm.lt;have wP:=XU.O.lt;have jrX:=ah hLl;have jrY:=ah hLe;clear hbm hLk hLl hLe;by_cases hz:mm=1
     ·obtain rfl:m0=0:=by have:=jq3.O;omega
      have hz':=ah hz;have hMv:=ah (show ∀W,Below w3.heap.size w3 W->At W W.heap.size (some ⟨gm,0,none⟩) (L.flatMap nP)from λW hW=>by
       have h:=(XU.O.below hW).own.aF.sl (by show L.length<=_;have:=jrX.O;omega)
       rw[em'.O]at h
       exact h.at_)
      have hLn:=jrX.O;have hlt:(L.take k).length=k:=by rw[bT];omega
      have hld:(L.drop (k+1)).length=sT.aF.length - (k+1):=by rw[fQ,hLn]
      have hba:Below w3.heap.size w3 (w3.alloc (.cells #[] 48)).drew:=((aj _ _).alloc (au _) _).drew;have hown0:Own nP 4 48 (w3.alloc (.cells #[] 48)).drew w3.heap.size (.slice (some ⟨w3.heap.size,0,none⟩) 0 0) []:=(Own.VQ w3 _ (au _):Own nP 4 48 (w3.alloc (.cells #[] 48)) w3.heap.size (.slice (some ⟨w3.heap.size,0,none⟩) 0 0) []);obtain⟨v1,w1,hr1,yj,hg1,hb1⟩:=GH _ w3.heap.size _ [] (L.take k) hown0 gm 0 cm _ (At.head (ys:=(L.drop k).flatMap nP) (by rw[<- gy,mF];exact hMv.O _ hba)) (by rw[hlt];simp only[dY];omega) hba.size
      rw[hlt]at hr1
      rw[iy]at yj
      have h81:=hba.trans hb1;obtain⟨A1',c1',rfl⟩:=yj.isSlice;rw[hlt]at hr1 yj
      have Ia:∃o7,At w1 w1.heap.size (some ⟨gm,o7,none⟩) ((L.drop (k+1)).flatMap nP)/\(cm=k+1/\o7=0\/¬cm=k+1/\o7=(k+1)*4):=by
       by_cases hcq:cm=k+1
       ·refine⟨0,?_,.inl ⟨hcq,rfl⟩⟩
        have:L.drop (k+1)=[]:=wG (by omega)
        rw[this];exact At.nil
       ·refine⟨(k+1)*4,?_,.inr ⟨hcq,rfl⟩⟩
        have h2:=hMv.O _ h81;rw[<- mF (k+1) L,gy]at h2
        have h3:=h2.tail;rwa [kL nP 4 (λ_=>rfl),bT,jS (by omega),eY]at h3
      obtain⟨o7,hA7,Ia⟩:=Ia;obtain⟨v2,w2,hr2,yh,hg2,hb2⟩:=GH w1 w3.heap.size (.slice A1' k c1') (L.take k) (L.drop (k+1)) yj gm o7 (cm - (k+1)) _ hA7 (by rw[hlt,hld];omega) h81.size
      rw[hld]at hr2
      try rw[hlt]at hr2
      rw[<- nT]at yh
      obtain⟨TB,c2',rfl⟩:=yh.isSlice;have h82:=h81.trans hb2;have h02:=h03.trans (h82.mono h03.size);have hx2:=XU.O.below h82;have hO2:=ah (show dK w2 aO {V with aF:=.slice TB (L.eraseIdx k).length c2'} {sT with aF:=L.eraseIdx k}from hx2.own.VJ (yO w2 _) (yh.from_ (by have:=XU.O.lt;omega)))
      have Ji:=ah hx2.uK;have hbk2:=ah (ji0.O.below h82 ji0.O.lt);have p3a:=((XU.O.below h81).cells.2.2.2.1).trans (kX some em'.O);have b3:=hx2.cells.2.2.2.1.trans (kX some em'.O);have b3f:w2.frozen? ⟨bx,3,none⟩=false:=hx2.uK.blk.frozen 3;have l81:=h81.size;have l82:=h82.size;have hr1':=ah hr1;have hr2':=ah hr2;have q1:k<=cm:=by omega
      have q2:(k:Int)<=(cm:Int):=by omega
      have q3:(0:Int)<=(k:Int)+1:=by omega
      have q4:(k:Int)+1<=(sT.aF.length:Int):=by omega
      have q5:((k:Int)+1).toNat=k+1:=by omega
      have q6:¬(cm=0):=by omega
      have q7:IntKind.i64.wrap ((k:Int)+1)=(k:Int)+1:=aN _ (by omega)
      have juw:=ah h82;clear hown0 yj yh hr1 hr2 hA7 hx2 hg1 hg2 hb1 hb2 hba h81 h82 hlt hld XU ji0 h03 hLn hz;rcases Ia with⟨hcq,Ia⟩|⟨hcq,Ia⟩
      ·subst Ia;have jd8:(cm=k+1)=True:=eq_true hcq;clear hcq;go_wp2_with fail;clear f3;go_region_law (first|refine qV _ rfl (.tmp 119) (.tmp 123) 29 29 rfl (.slice (some ⟨w3.heap.size,0,none⟩) 0 0) (.slice (some ⟨gm,0,none⟩) k cm) (by simp[Act.eval,Act.put]) (by simp[Act.eval,Act.put]) hr1'.O ?_|refine qV _ rfl (.tmp 124) (.tmp 129) 29 29 rfl (.slice A1' k c1') (.slice (some ⟨gm,0,none⟩) (sT.aF.length - (k+1)) (cm - (k+1))) (by simp[Act.eval,Act.put]) (by simp[Act.eval,Act.put]) hr2'.O ?_)
       all_goals
        clear p3 p3a b3 b3f q1 q2 q3 q4 q5 q6 q7 jd8;obtain⟨Dz,Cb⟩:=Bx.set' (V:=V) (V':={V with aF:=.slice TB (L.eraseIdx k).length c2'}) (s':={sT with aF:=L.eraseIdx k}) (rest:=[]) (by rw[iJ];exact Ji.O.blk) hO2.O Xp 3 (.slice TB (L.eraseIdx k).length c2') rfl
        have sK:=ah (show Bx (w2.setCell ⟨bx,3,none⟩ (.slice TB (L.eraseIdx k).length c2')) aO bx 31 [] {V with aF:=.slice TB (L.eraseIdx k).length c2'} (wM s i j n (t+1))by rw[hpm.O.1,aB hz'.O,<- jrY.O];exact Dz)
        have jb4:=ah (show iV (w2.setCell ⟨bx,3,none⟩ (.slice TB (L.eraseIdx k).length c2')) kb 104 (yC s i j (t+1))by rw[KE hpm.O.2];exact hbk2.O.grown Cb (λhe=>by injection he with he;exact(hbk2.O.ne Ji.O.blk (by decide)) he))
        have h010:=qR h02 Cb h02.size (λk hk=>by injection hk with hk;omega)
        clear Dz Cb Ji hO2 hr1' hr2' hbk2 l81 l82 h02;generalize w2.setCell ⟨bx,3,none⟩ (.slice TB (L.eraseIdx k).length c2')=w10 at sK jb4 h010 ⊢
        go_wp2_with fail;go_roundg (over s i j n - (t+1)).toNat
        case rel=>exact⟨t+1,_,rfl,by omega,by omega,sK.O,jb4.O,h010⟩
        case measure=>rw[jac.O];omega
      ·subst Ia;have jd8:=hcq;clear hcq;go_wp2_with fail;clear f3;go_region_law (first|refine qV _ rfl (.tmp 119) (.tmp 123) 29 29 rfl (.slice (some ⟨w3.heap.size,0,none⟩) 0 0) (.slice (some ⟨gm,0,none⟩) k cm) (by simp[Act.eval,Act.put]) (by simp[Act.eval,Act.put]) hr1'.O ?_|refine qV _ rfl (.tmp 124) (.tmp 129) 29 29 rfl (.slice A1' k c1') (.slice (some ⟨gm,(k+1)*4,none⟩) (sT.aF.length - (k+1)) (cm - (k+1))) (by simp[Act.eval,Act.put]) (by simp[Act.eval,Act.put]) hr2'.O ?_)
       all_goals
        clear p3 p3a b3 b3f q1 q2 q3 q4 q5 q6 q7 jd8;obtain⟨Dz,Cb⟩:=Bx.set' (V:=V) (V':={V with aF:=.slice TB (L.eraseIdx k).length c2'}) (s':={sT with aF:=L.eraseIdx k}) (rest:=[]) (by rw[iJ];exact Ji.O.blk) hO2.O Xp 3 (.slice TB (L.eraseIdx k).length c2') rfl
        have sK:=ah (show Bx (w2.setCell ⟨bx,3,none⟩ (.slice TB (L.eraseIdx k).length c2')) aO bx 31 [] {V with aF:=.slice TB (L.eraseIdx k).length c2'} (wM s i j n (t+1))by rw[hpm.O.1,aB hz'.O,<- jrY.O];exact Dz)
        have jb4:=ah (show iV (w2.setCell ⟨bx,3,none⟩ (.slice TB (L.eraseIdx k).length c2')) kb 104 (yC s i j (t+1))by rw[KE hpm.O.2];exact hbk2.O.grown Cb (λhe=>by injection he with he;exact(hbk2.O.ne Ji.O.blk (by decide)) he))
        have h010:=qR h02 Cb h02.size (λk hk=>by injection hk with hk;omega)
        clear Dz Cb Ji hO2 hr1' hr2' hbk2 l81 l82 h02;generalize w2.setCell ⟨bx,3,none⟩ (.slice TB (L.eraseIdx k).length c2')=w10 at sK jb4 h010 ⊢
        go_wp2_with fail;go_roundg (over s i j n - (t+1)).toNat
        case rel=>exact⟨t+1,_,rfl,by omega,by omega,sK.O,jb4.O,h010⟩
        case measure=>rw[jac.O];omega
     ·have hz0:(m0==0)=false:=by
       have h:=jq3.O;simp
       omega
      have hxn:=ah (show Bx w3 aO bx 31 [] V (wM s i j n (t+1))by rw[hpm.O.1,ay hz];exact XU.O)
      have hbn:=ah (show iV w3 kb 104 (yC s i j (t+1))by rw[KE hpm.O.2];exact ji0.O)
      clear XU ji0;go_wp2_with fail;clear p3 f3;go_roundg (over s i j n - (t+1)).toNat
      case rel=>exact⟨t+1,V,rfl,by omega,by omega,hxn.O,hbn.O,h03⟩
      case measure=>rw[jac.O];omega
   ·have hlt':=fA hlt;obtain rfl:t=over s i j n:=by unfold over at ht1 ⊢;omega
    have hx1:=ah (show Bx W1 aO bx 31 [] V (ctO p s i j n 0)from hxr.O.below h1)
    have hbk1:=ah (jgg.O.below h1 jgg.O.lt);have h01:=h0r.trans (h1.mono h0r.size);obtain⟨Ao,co,hvo⟩:=hx1.O.own.EL;rw[(Po hc'.O hf.O (aK _)).2.1]at hvo
    have Gp:=ah hvo;have bK:=ah (jcx hc'.O hf.O);have h4:=hsn.O.qH;obtain⟨cells,hcells⟩:∃cells,cells=yC s i j (over s i j n):=⟨_,rfl⟩;rw[<- hcells]at hbk1
    have hcells':=ah hcells;clear hxr jgg h1 hBr h0r wP hvo hst jac hr hcells;go_wp2_with fail;clear hlt' hlt;go_loopw[17,18] (λo _ wr=>∃(q:Nat) (V':SV),V'={V with aA:=V'.aA}/\q<=s.ak.length/\o=.int .i64 q/\Bx wr aO bx 31 [] V' (ctO p s i j n q)/\iV wr kb 104 cells/\Below W0.heap.size W0 wr) (λo _ _=>s.ak.length - (RowKit.intOf o).toNat)
    case atStart=>exact⟨0,V,rfl,aK _,rfl,hx1.O,hbk1.O,h01⟩
    case round=>
     clear hx1 hbk1 h01;obtain⟨q,V',hV,hq,rfl,hx,hbk,h0⟩:=hrel;have hx':=ah hx;have hbk':=ah hbk;have Ph:=ah (show V'.ak=.slice Ao s.ak.length co by rw[hV];exact Gp.O)
     have hV':=ah hV;have c1:=hx.cells.2.1;rw[Ph.O]at c1
     have wP:=hx.lt;clear hx hbk hV;by_cases hlt:q<s.ak.length
     ·have hqi:(q:Int)<(s.ak.length:Int):=by omega
      have hq4:q<4:=by omega
      have hq4i:(q:Int)<4:=by omega
      have l13:=hsn.O.tN hlt;have hx0:=ah (show Bx wr aO bx 31 [] V' (U0 p s i j n q 0)from hx'.O)
      clear hx';go_wp2_with fail;clear c1 wP;go_loopw[18] (λkv wr=>∃(k:Nat) (V':SV),V'={V with aA:=V'.aA}/\k<=(s.aC q).aH.length/\kv=.int .i64 k/\Bx wr aO bx 31 [] V' (U0 p s i j n q k)/\iV wr kb 104 cells/\Below W0.heap.size W0 wr) (λkv _=>(s.aC q).aH.length - (RowKit.intOf kv).toNat)
      case atStart=>exact⟨0,V',hV'.O,aK _,rfl,hx0.O,hbk'.O,h0⟩
      case round=>
       clear hx0 hbk' h0 Ph hV' V';obtain⟨k,V',hV,hkl,rfl,hx,hbk,h0⟩:=hrel;have hx':=ah hx;have hbk':=ah hbk;have Ph:=ah (show V'.ak=.slice Ao s.ak.length co by rw[hV];exact Gp.O)
       have hV':=ah hV;obtain⟨hrt,kD,Hz⟩:=jgy hc'.O hf.O hlt hkl;have jbO:=ah hrt;have hoq:q<(U0 p s i j n q k).ak.length:=by rw[kD];exact hlt
       have jkW:=Hz q hlt;obtain⟨go,_,_,eo,_,_,_,z1⟩:=hx'.O.own.aU hoq;obtain⟨gl,cl,curl,el,hgl,jiX,_⟩:=hx'.O.own.gK (o:=q) (k:=0) hoq (by rw[jkW];omega)
       rw[Ph.O]at eo
       injection eo with eo e2 e3
       subst eo;clear e2 e3;rw[el,jkW]at z1
       rw[jkW]at el
       have c1:=hx'.O.cells.2.1;rw[Ph.O]at c1
       have wP:=hx'.O.lt;have el':=ah el;have jqV:=ah hoq;clear hx hbk hV hrt kD Hz hoq jkW el jiX;by_cases hkt:k<(s.aC q).aH.length
       ·have hki:(k:Int)<((s.aC q).aH.length:Int):=by omega
        have hk3:k<3:=by omega
        have hk3i:(k:Int)<3:=by omega
        have hcc:=hbk'.O.cell (j:=q*3+k) (v:=.int .i64 (rH s i j (over s i j n) q k)) (by rw[hcells'.O];exact OA hq4 hk3)
        have lcb:=hbk'.O.lt;by_cases wK:0<rH s i j (over s i j n) q k
        ·have hmay:=ah (jly hc'.O hf.O hlt hkt wK);obtain⟨s1,x,hs1,hxx⟩:∃s1 x,(qL p (U0 p s i j n q k) q k (rH s i j (over s i j n) q k) i).1=s1/\(qL p (U0 p s i j n q k) q k (rH s i j (over s i j n) q k) i).2=x:=⟨_,_,rfl,rfl⟩;have jqQ:=ah (show U0 p s i j n q (k+1)=s1 from hs1)
         have hs1':=ah hs1;have jf6:=ah hxx;have jrj:=ah (show cells[q*3+k]?=some (.int .i64 (rH s i j (over s i j n) q k))by rw[hcells'.O];exact OA hq4 hk3)
         clear hs1 hxx;generalize rH s i j (over s i j n) q k=nv at hmay jf6 hs1' hcc jrj wK
         have hpos':=iG wK;have rV:aO<=wr.drew.heap.size:=by show aO<=wr.heap.size;omega
         have hT0:ctT W0 aO bx V' (U0 p s i j n q k) s1 kb cells 0 wr.drew:=⟨⟨h0.drew,rV,hx'.O.drew⟩,hbk'.O.drew⟩;have ji6:=ah hT0;clear rV hT0;go_wp2_with fail;clear z1 c1 hcc lcb wP wK hpos';refine Nr 15 (ctT W0 aO bx V' (U0 p s i j n q k) s1 kb cells) (λk' w1 w2=>ctT W0 aO bx V' (U0 p s i j n q k) s1 kb cells k' w1->ctT W0 aO bx V' (U0 p s i j n q k) s1 kb cells (k'+1) w2) 10 14 (by decide) (by decide) (by decide) (λo ho=>by injection ho with ho;subst ho;exact⟨⟨10,.chain⟩,by simp,rfl,rfl⟩)
          [λ_ gq _=>gq 203=.agg #[.slice Ab p.bQ.length cb,.slice As p.aP.length cs],λph gq w'=>(λ(ph:Nat) (v:Value) (_:World)=>∃Vq:SV,v=Vq.val/\(ph=0->Vq=V')) ph (gq 204) w',λ_ gq _=>gq 205=.int .i64 q,λ_ gq _=>gq 206=.int .i64 k,λ_ gq _=>gq 207=.int .i64 q,λ_ gq _=>gq 208=.int .i64 k,λ_ gq _=>gq 209=.pointer (some ⟨kb,q*3,none⟩),λ_ gq _=>gq 210=.pointer (some ⟨kb,q*3+k,none⟩),λ_ gq _=>gq 211=.int .i64 nv,λ_ gq _=>gq 212=.int .i64 i,λph gq w'=>Ii aO V' s1 (λv=>.tuple #[v,.int .i64 x]) ph (gq 213) w',λph gq w'=>Ii aO V' s1 (λv=>.tuple #[v,.int .i64 x]) ph (gq 202) w',λph gq w'=>Ii aO V' s1 id ph (gq 214) w',λ_ gq _=>gq 215=.int .i64 x,λph gq w'=>ph=2/\True] (by kernel_rfl) (by kernel_rfl) rfl (by kernel_rfl)
          (λph w1 w2 h h'=>jgx h h') (λk w1 w2 _ h h'=>h' h) ji6.O ?_ (λf w2 hb2 hR=>?_)
         simp only[bC,bV];refine yJ.cons (Jz.val rfl rfl (by decide) (by decide) (λph gq w' hb ho hd=>?_)) ?_
         ·have e5:=ho 5 rfl;obtain⟨⟨y0,y1⟩,x0,x1,x2,x3,x4,x5,x6,eP,eU⟩:=hK.O w' (hb.1.1);go_simp
         refine yJ.cons (Jz.one (d:=204) (p:=λ(ph:Nat) (v:Value) (_:World)=>∃Vq:SV,v=Vq.val/\(ph=0->Vq=V')) rfl rfl (by decide) (by decide) (λph v w1 w2 h hb=>h) (λk v w1 w2 _ h hb=>by
           obtain⟨Vq,h1,h2⟩:=h;exact⟨Vq,h1,λh=>by omega⟩) (λph gq w' hb ho hd=>?_)) ?_
         ·have e13:=ho 13 rfl;obtain⟨Vb,hvb,jdP,hvv⟩:=ja6 hb.1;clear jdP;obtain⟨b0,b1,b2,b3,b4,b5,b6⟩:=hvb.cells;have jh6:=ah hvv;clear hvv hvb;unfold iT;go_simp
          exact⟨⟨Vb,rfl,jh6.O⟩,aj _ _⟩
         refine yJ.cons (Jz.val rfl rfl (by decide) (by decide) (λph gq w' hb ho hd=>?_)) ?_
         ·have e17:=ho 17 rfl;go_simp
         refine yJ.cons (Jz.val rfl rfl (by decide) (by decide) (λph gq w' hb ho hd=>?_)) ?_
         ·have e18:=ho 18 rfl;go_simp
         refine yJ.cons (Jz.val rfl rfl (by decide) (by decide) (λph gq w' hb ho hd=>?_)) ?_
         ·have e17:=ho 17 rfl;go_simp
         refine yJ.cons (Jz.val rfl rfl (by decide) (by decide) (λph gq w' hb ho hd=>?_)) ?_
         ·have e18:=ho 18 rfl;go_simp
         refine yJ.cons (Jz.val rfl rfl (by decide) (by decide) (λph gq w' hb ho hd=>?_)) ?_
         ·have e14:=ho 14 rfl;have e207:gq 207=.int .i64 q:=hd ⟨4,.data⟩ (by simp) rfl (by decide)
          go_simp
         refine yJ.cons (Jz.val rfl rfl (by decide) (by decide) (λph gq w' hb ho hd=>?_)) ?_
         ·have e209:gq 209=.pointer (some ⟨kb,q*3,none⟩):=hd ⟨6,.data⟩ (by simp) rfl (by decide)
          have e208:gq 208=.int .i64 k:=hd ⟨5,.data⟩ (by simp) rfl (by decide)
          go_simp
         refine yJ.cons (Jz.val rfl rfl (by decide) (by decide) (λph gq w' hb ho hd=>?_)) ?_
         ·have e210:gq 210=.pointer (some ⟨kb,q*3+k,none⟩):=hd ⟨7,.data⟩ (by simp) rfl (by decide)
          have hcc:=hb.2.cell jrj.O;go_simp
         refine yJ.cons (Jz.val rfl rfl (by decide) (by decide) (λph gq w' hb ho hd=>?_)) ?_
         ·have e2:=ho 2 rfl;go_simp
         refine yJ.cons (Jz.first (d:=213) (p:=Ii aO V' s1 (λv=>.tuple #[v,.int .i64 x])) rfl rfl (λph v w1 w2 h hb=>F9 h hb) (λv w1 w2 h hb=>IC (au _) h) (λgq w' hb ho hd=>?_)) ?_
         ·have e203:gq 203=.agg #[.slice Ab p.bQ.length cb,.slice As p.aP.length cs]:=hd ⟨0,.data⟩ (by simp) rfl (by decide)
          have e204:∃Vq:SV,gq 204=Vq.val/\((0:Nat)=0->Vq=V'):=hd ⟨1,.data⟩ (by simp) rfl (by decide)
          have e205:gq 205=.int .i64 q:=hd ⟨2,.data⟩ (by simp) rfl (by decide)
          have e206:gq 206=.int .i64 k:=hd ⟨3,.data⟩ (by simp) rfl (by decide)
          have e211:gq 211=.int .i64 nv:=hd ⟨8,.data⟩ (by simp) rfl (by decide)
          have e212:gq 212=.int .i64 i:=hd ⟨9,.data⟩ (by simp) rfl (by decide)
          obtain⟨Vq,e204,hVV⟩:=e204;obtain rfl:=(hVV rfl).symm;have hb':=ah hb;clear hb hVV;unfold iT;go_simp
          refine(jhl w' _ p (U0 p s i j n q k) q k nv i (hP'.O _ (hb0.trans (hb'.O.1.1.mono hb0.size))) jbO.O hmay.O (Bx.own hb'.O.1.2.2) hb'.O.1.2.1).mono ?_
          rintro e w9 ⟨V9,hV9,rfl,E8,wJ⟩;have MB:dK w9 aO V9 s1:=by rw[<- hs1'.O];exact E8
          rw[jf6.O];refine⟨_,rfl,⟨V9,hV9,rfl,MB⟩,λ_=>⟨⟨hb'.O.1.1.trans (wJ.below (B:=W0.heap.size) (λr hr=>by
           rw[el'.O]at hr
           change some gl=some r at hr
           injection hr with hr
           omega) hb'.O.1.1.size),aY hb'.O.1.2.1 wJ.size,wJ.blk (Bx.uK hb'.O.1.2.2).blk ?_,V9,hV9,MB⟩,wJ.blk hb'.O.2 ?_⟩⟩
          ·rcases Own.mQ ((Bx.own hb'.O.1.2.2).aG q jqV.O) (Bx.uK hb'.O.1.2.2).blk (by decide)with h|h
           ·rw[h];simp
           ·exact h
          ·rcases Own.mQ ((Bx.own hb'.O.1.2.2).aG q jqV.O) hb'.O.2 (by decide)with h|h
           ·rw[h];simp
           ·exact h
         refine yJ.cons (Jz.one (d:=202) (p:=Ii aO V' s1 (λv=>.tuple #[v,.int .i64 x])) rfl rfl (by decide) (by decide) (λph v w1 w2 h hb=>F9 h hb) (λk v w1 w2 hk h hb=>IC hk h) (λph gq w' hb ho hd=>?_)) ?_
         ·have e213:Ii aO V' s1 (λv=>.tuple #[v,.int .i64 x]) ph (gq 213) w':=hd ⟨10,.data⟩ (by simp) rfl (by decide)
          have jsh:=ah e213;clear e213;unfold iT;go_simp
          exact⟨jsh.O,aj _ _⟩
         refine yJ.cons (Jz.one (d:=214) (p:=Ii aO V' s1 id) rfl rfl (by decide) (by decide) (λph v w1 w2 h hb=>F9 h hb) (λk v w1 w2 hk h hb=>IC hk h) (λph gq w' hb ho hd=>?_)) ?_
         ·have Xa:Ii aO V' s1 (λv=>.tuple #[v,.int .i64 x]) ph (gq 202) w':=hd ⟨11,.data⟩ (by simp) rfl (by decide)
          rcases ph with _|_|ph
          ·exact Xa.elim
          ·obtain⟨V7,hV7,Xa,Ia⟩:=Xa;have Z7:=ah Ia;have jn8:=ah hV7;clear Ia hV7;unfold iT;go_simp
           exact⟨⟨V7,jn8.O,rfl,Z7.O⟩,aj _ _⟩
          ·obtain⟨V7,Xa⟩:=Xa;unfold iT;go_simp
           exact⟨⟨V7,rfl⟩,aj _ _⟩
         refine yJ.cons (Jz.val rfl rfl (by decide) (by decide) (λph gq w' hb ho hd=>?_)) ?_
         ·have Xa:Ii aO V' s1 (λv=>.tuple #[v,.int .i64 x]) ph (gq 202) w':=hd ⟨11,.data⟩ (by simp) rfl (by decide)
          have jsi:∃V7:SV,gq 202=.tuple #[V7.val,.int .i64 x]:=by
           rcases ph with _|_|ph
           ·exact Xa.elim
           ·obtain⟨V7,_,h,_⟩:=Xa;exact⟨V7,h⟩
           ·exact Xa
          clear Xa;obtain⟨V7,Xa⟩:=jsi;go_simp
         refine yJ.cons (Jz.second (p:=λ_ _=>True) (by decide) rfl (λgq w1 w2 h hb=>trivial) (λgq gq' w1 he h=>trivial) (λgq w' hb ho hd=>?_)) ?_
         ·have e13:=ho 13 rfl;have e214:Ii aO V' s1 id 1 (gq 214) w':=hd ⟨12,.data⟩ (by simp) rfl (by decide)
          obtain⟨V7,hV7,e214,Ia⟩:=e214;refine MZ (.tmp 13) (.tmp 214) rfl bx V' V7 hb.1.2.2.1 e13 e214 Ia.one (λw8 KW hg8=>?_)
          exact⟨trivial,λ_=>⟨⟨hb.1.1.grown hg8 hb.1.1.size (λr hr=>by injection hr with hr;omega),aY hb.1.2.1 hg8.size,V7,hV7,Bx.of KW (Ia.keptBy hg8 hb.1.2.2.1.blk (by decide) (by decide) (by decide) (by decide) (by decide) (by decide))⟩,hb.2.grown hg8 (λhe=>by injection he with he;exact(hb.2.ne hb.1.2.2.1.blk (by decide)) he)⟩⟩
         exact yJ.nil;obtain⟨jpR,⟨Vx,jpQ,_⟩,jpP,jpO,jpN,jpM,jpL,jpJ,jpI,jpH,⟨V1,jpG⟩,⟨V2,jpS⟩,⟨V3,jpF⟩,jpE,_⟩:=hR;simp only[kG,zB,bC,bV,eG,gW,eX,fF,fB,gV,bM,dF,dL,jpR,jpQ,jpP,jpO,jpN,jpM,jpL,jpJ,jpI,jpH,jpG,jpS,jpF,jpE];clear jpR jpQ jpP jpO jpN jpM jpL jpJ jpI jpH jpG jpS jpF jpE;refine fC ?_
         obtain⟨⟨h09,_,V9,hV9,uO⟩,jrs⟩:=hb2;have ji5:=ah (Vf hV9 hV'.O);have Dj:=ah (show Bx w2 aO bx 31 [] V9 (U0 p s i j n q (k+1))by rw[jqQ.O];exact uO)
         have jrr:=ah jrs;clear uO jrs hV9 hx' hbk' hV' Ph hmay jbO el' hs1' jqQ jf6 ji6;go_wp2_with fail;go_roundw
         case rel=>exact⟨k+1,V9,ji5.O,by omega,by go_num,Dj.O,jrr.O,h09⟩
         case measure=>simp[RowKit.intOf];omega
        ·have hsk:=ah (jjD (p:=p) wK);have hpos':=fA wK;have hx2:=ah (show Bx wr aO bx 31 [] V' (U0 p s i j n q (k+1))by rw[hsk.O];exact hx'.O)
         clear hx' wK;go_wp2_with fail;clear c1 z1 hcc lcb wP;go_roundw
         case rel=>exact⟨k+1,V',hV'.O,by omega,by go_num,hx2.O,hbk'.O,h0⟩
         case measure=>simp[RowKit.intOf];omega
       ·obtain rfl:k=(s.aC q).aH.length:=by omega
        have hx2:=ah (show Bx wr aO bx 31 [] V' (ctO p s i j n (q+1))by rw[<- jlz hc'.O hf.O hlt];exact hx'.O)
        clear hx';go_wp2_with fail;clear c1 z1 wP;go_roundw
        case rel=>exact⟨q+1,V',hV'.O,by omega,by go_num,hx2.O,hbk'.O,h0⟩
        case measure=>simp[RowKit.intOf];omega
     ·obtain rfl:q=s.ak.length:=by omega
      have hB0:=hb0.trans (h0.mono hb0.size);have hx2:=ah (show Bx wr aO bx 31 [] V' (H8 p s i j n)by rw[<- jlw];exact hx'.O)
      have hvv:=Ph.O;clear hx' Ph hV';obtain⟨a0,a1,a2,a3,a4,a5,a6,a7,a8⟩:=V';obtain rfl:a1=.slice Ao s.ak.length co:=hvv;have fH:=hR.O _ h0;obtain⟨b0,b1,b2,b3,b4,b5,b6⟩:=jk.cells hx2.O.uK;have lG:=dK.one hx2.O.own;go_wp2_with (refine dB (.tmp 10) (.tmp 216) dH (⟨a0,.slice Ao s.ak.length co,a2,a3,a4,a5,a6,a7,a8⟩:SV) rfl fH rfl lG (λw9 dM je=>?_))
      have wC:=dK.keptBy hx2.O.own je fH (by decide) (by decide) (by decide) (by decide) (by decide) (by decide)
      have dN:=Below.gB hB0 je;clear b0 b1 b2 b3 b4 b5 b6;go_wp2_with fail;exact jo results21 dM rfl rfl (EZ bK.O (wC.from_ hle) dN)
 ·have hne:(aQ p s !=0)=true:=by simpa using hc
  have bK:=ah (Za (b:=b) (g:=g) (n:=n) hc);clear hc;have fH:=hR.O _ h1;go_wp2_with (refine dB (.tmp 10) (.tmp 24) dH dH rfl fH rfl rfl (λw9 dM je=>?_))
  have dN:=Below.gB hB1 je;go_wp2_with fail;exact jo results21 dM rfl rfl (jQ bK.O dN)
end Wh
namespace Wh
open Go Go.RowKit Go.Shelf Go.Proofs Tryz
attribute [local go_sem] aT jW jm kC
theorem jlM(w:World)(v vs vd:Value)(p:dA)(s:aJ)(x:yK)(hp:mW w w.heap.size v p)(hv:lK w w.heap.size vs s)(hd:Ur w w.heap.size vd x)(hcap:Si vs):
  Calls prog 18 #[v,vs,vd] w (nN (act p s x) w):=by
 obtain⟨Ab,cb,As,cs,rfl,hP',hBn,hSz,hlb,hls⟩:=sN hp;obtain⟨A0,c0,A1,c1,A2,c2,A3,c3,A4,c4,A5,c5,A6,c6,rfl,hV,hN,hO,hH,hM,hI,hU,hX,hl0,hl1,hl2,hl3,hl4,hl5,JA⟩:=oW hv;obtain⟨Al,cl,rfl,hDV,hLn,hll⟩:=Rf hd;obtain⟨kd,xa,xb,xc,xn,l⟩:=x;simp only at hDV hLn hll ⊢
 have hcap':=ah hcap;clear hd hp hv hcap;by_cases k1:kd=1
 ·rw[show act p s ⟨kd,xa,xb,xc,xn,l⟩=rF p s xa xb xn by rw[k1];rfl]
  have q1:(kd==1)=true:=by simpa using k1
  clear k1;go_enter func18,ntmps18
  go_wp2_with fail;obtain⟨W0,hW0,hb0,hsE,hK,hD,hR⟩:=yG w p s Ab cb As cs A0 c0 A1 c1 A2 c2 A3 c3 A4 c4 A5 c5 A6 c6 kd xa xb xc xn Al l.length cl;rw[hW0];clear hW0;refine(jdo _ _ _ p s xa xb xn (hP'.O _ hb0) (hV.O _ hb0)).mono ?_
  rintro e W1 ⟨V1,rfl,ho1,hb1⟩;have fH:=hR.O _ hb1;have lG:=dK.one ho1;go_wp2_with (refine dB (.tmp 6) (.tmp 21) dH V1 rfl fH rfl lG (λw9 dM je=>?_))
  have wC:=dK.keptBy ho1 je fH (by decide) (by decide) (by decide) (by decide) (by decide) (by decide)
  have hB1:=hb0.trans (hb1.mono hb0.size);have hle:=hb0.size;have dN:=Below.gB hB1 je;go_wp2_with fail;exact jo results18 dM rfl rfl (show nN (rF p s xa xb xn) w _ w9 from⟨V1,rfl,wC.from_ hle,dN⟩)
 have q1:(kd==1)=false:=by simpa using k1
 by_cases k2:kd=2
 ·rw[show act p s ⟨kd,xa,xb,xc,xn,l⟩=enter p s l by rw[k2];rfl]
  have q2:(kd==2)=true:=by simpa using k2
  clear k1 k2;go_enter func18,ntmps18
  go_wp2_with fail;obtain⟨W0,hW0,hb0,hsE,hK,hD,hR⟩:=yG w p s Ab cb As cs A0 c0 A1 c1 A2 c2 A3 c3 A4 c4 A5 c5 A6 c6 kd xa xb xc xn Al l.length cl;rw[hW0];clear hW0;refine(jho _ _ _ _ p s l (hP'.O _ hb0) (hV.O _ hb0) (hLn.O _ hb0)).mono ?_
  rintro e W1 ⟨V1,rfl,ho1,hb1⟩;have fH:=hR.O _ hb1;have lG:=dK.one ho1;go_wp2_with (refine dB (.tmp 6) (.tmp 30) dH V1 rfl fH rfl lG (λw9 dM je=>?_))
  have wC:=dK.keptBy ho1 je fH (by decide) (by decide) (by decide) (by decide) (by decide) (by decide)
  have hB1:=hb0.trans (hb1.mono hb0.size);have hle:=hb0.size;have dN:=Below.gB hB1 je;go_wp2_with fail;exact jo results18 dM rfl rfl (show nN (enter p s l) w _ w9 from⟨V1,rfl,wC.from_ hle,dN⟩)
 have q2:(kd==2)=false:=by simpa using k2
 by_cases k3:kd=3
 ·rw[show act p s ⟨kd,xa,xb,xc,xn,l⟩=zq p s by rw[k3];rfl]
  have q3:(kd==3)=true:=by simpa using k3
  clear k1 k2 k3;go_enter func18,ntmps18
  go_wp2_with fail;obtain⟨W0,hW0,hb0,hsE,hK,hD,hR⟩:=yG w p s Ab cb As cs A0 c0 A1 c1 A2 c2 A3 c3 A4 c4 A5 c5 A6 c6 kd xa xb xc xn Al l.length cl;rw[hW0];clear hW0;refine(jdn _ _ _ p s (hP'.O _ hb0) (hV.O _ hb0)).mono ?_
  rintro e W1 ⟨V1,rfl,ho1,hb1⟩;have fH:=hR.O _ hb1;have lG:=dK.one ho1;go_wp2_with (refine dB (.tmp 6) (.tmp 37) dH V1 rfl fH rfl lG (λw9 dM je=>?_))
  have wC:=dK.keptBy ho1 je fH (by decide) (by decide) (by decide) (by decide) (by decide) (by decide)
  have hB1:=hb0.trans (hb1.mono hb0.size);have hle:=hb0.size;have dN:=Below.gB hB1 je;go_wp2_with fail;exact jo results18 dM rfl rfl (show nN (zq p s) w _ w9 from⟨V1,rfl,wC.from_ hle,dN⟩)
 have q3:(kd==3)=false:=by simpa using k3
 by_cases k4:kd=4
 ·rw[show act p s ⟨kd,xa,xb,xc,xn,l⟩=zJ p s xa by rw[k4];rfl]
  have q4:(kd==4)=true:=by simpa using k4
  clear k1 k2 k3 k4;go_enter func18,ntmps18
  go_wp2_with fail;obtain⟨W0,hW0,hb0,hsE,hK,hD,hR⟩:=yG w p s Ab cb As cs A0 c0 A1 c1 A2 c2 A3 c3 A4 c4 A5 c5 A6 c6 kd xa xb xc xn Al l.length cl;rw[hW0];clear hW0;refine(jfR _ _ _ p s xa (hP'.O _ hb0) (hV.O _ hb0)).mono ?_
  rintro e W1 ⟨V1,rfl,ho1,hb1⟩;have fH:=hR.O _ hb1;have lG:=dK.one ho1;go_wp2_with (refine dB (.tmp 6) (.tmp 46) dH V1 rfl fH rfl lG (λw9 dM je=>?_))
  have wC:=dK.keptBy ho1 je fH (by decide) (by decide) (by decide) (by decide) (by decide) (by decide)
  have hB1:=hb0.trans (hb1.mono hb0.size);have hle:=hb0.size;have dN:=Below.gB hB1 je;go_wp2_with fail;exact jo results18 dM rfl rfl (show nN (zJ p s xa) w _ w9 from⟨V1,rfl,wC.from_ hle,dN⟩)
 have q4:(kd==4)=false:=by simpa using k4
 by_cases k5:kd=5
 ·rw[show act p s ⟨kd,xa,xb,xc,xn,l⟩=pick p s xa xb xc xn by rw[k5];rfl]
  have q5:(kd==5)=true:=by simpa using k5
  clear k1 k2 k3 k4 k5;go_enter func18,ntmps18
  go_wp2_with fail;obtain⟨W0,hW0,hb0,hsE,hK,hD,hR⟩:=yG w p s Ab cb As cs A0 c0 A1 c1 A2 c2 A3 c3 A4 c4 A5 c5 A6 c6 kd xa xb xc xn Al l.length cl;rw[hW0];clear hW0;refine(jkl _ _ _ p s xa xb xc xn (hP'.O _ hb0) (hV.O _ hb0)).mono ?_
  rintro e W1 ⟨V1,rfl,ho1,hb1⟩;have fH:=hR.O _ hb1;have lG:=dK.one ho1;go_wp2_with (refine dB (.tmp 6) (.tmp 61) dH V1 rfl fH rfl lG (λw9 dM je=>?_))
  have wC:=dK.keptBy ho1 je fH (by decide) (by decide) (by decide) (by decide) (by decide) (by decide)
  have hB1:=hb0.trans (hb1.mono hb0.size);have hle:=hb0.size;have dN:=Below.gB hB1 je;go_wp2_with fail;exact jo results18 dM rfl rfl (show nN (pick p s xa xb xc xn) w _ w9 from⟨V1,rfl,wC.from_ hle,dN⟩)
 have q5:(kd==5)=false:=by simpa using k5
 by_cases k6:kd=6
 ·rw[show act p s ⟨kd,xa,xb,xc,xn,l⟩=fill p s by rw[k6];rfl]
  have q6:(kd==6)=true:=by simpa using k6
  clear k1 k2 k3 k4 k5 k6;go_enter func18,ntmps18
  go_wp2_with fail;obtain⟨W0,hW0,hb0,hsE,hK,hD,hR⟩:=yG w p s Ab cb As cs A0 c0 A1 c1 A2 c2 A3 c3 A4 c4 A5 c5 A6 c6 kd xa xb xc xn Al l.length cl;rw[hW0];clear hW0;refine(jkn _ _ _ p s (hP'.O _ hb0) (hV.O _ hb0)).mono ?_
  rintro e W1 ⟨V1,rfl,ho1,hb1⟩;have fH:=hR.O _ hb1;have lG:=dK.one ho1;go_wp2_with (refine dB (.tmp 6) (.tmp 68) dH V1 rfl fH rfl lG (λw9 dM je=>?_))
  have wC:=dK.keptBy ho1 je fH (by decide) (by decide) (by decide) (by decide) (by decide) (by decide)
  have hB1:=hb0.trans (hb1.mono hb0.size);have hle:=hb0.size;have dN:=Below.gB hB1 je;go_wp2_with fail;exact jo results18 dM rfl rfl (show nN (fill p s) w _ w9 from⟨V1,rfl,wC.from_ hle,dN⟩)
 have q6:(kd==6)=false:=by simpa using k6
 by_cases k7:kd=7
 ·rw[show act p s ⟨kd,xa,xb,xc,xn,l⟩=CW p s xa xn by rw[k7];rfl]
  have q7:(kd==7)=true:=by simpa using k7
  clear k1 k2 k3 k4 k5 k6 k7;go_enter func18,ntmps18
  go_wp2_with fail;obtain⟨W0,hW0,hb0,hsE,hK,hD,hR⟩:=yG w p s Ab cb As cs A0 c0 A1 c1 A2 c2 A3 c3 A4 c4 A5 c5 A6 c6 kd xa xb xc xn Al l.length cl;rw[hW0];clear hW0;refine(jhn _ _ _ p s xa xn (hP'.O _ hb0) (hV.O _ hb0) hcap'.O).mono ?_
  rintro e W1 ⟨V1,rfl,ho1,hb1⟩;have fH:=hR.O _ hb1;have lG:=dK.one ho1;go_wp2_with (refine dB (.tmp 6) (.tmp 79) dH V1 rfl fH rfl lG (λw9 dM je=>?_))
  have wC:=dK.keptBy ho1 je fH (by decide) (by decide) (by decide) (by decide) (by decide) (by decide)
  have hB1:=hb0.trans (hb1.mono hb0.size);have hle:=hb0.size;have dN:=Below.gB hB1 je;go_wp2_with fail;exact jo results18 dM rfl rfl (show nN (CW p s xa xn) w _ w9 from⟨V1,rfl,wC.from_ hle,dN⟩)
 have q7:(kd==7)=false:=by simpa using k7
 by_cases k8:kd=8
 ·rw[show act p s ⟨kd,xa,xb,xc,xn,l⟩=count p s xa xb xn by rw[k8];rfl]
  have q8:(kd==8)=true:=by simpa using k8
  clear k1 k2 k3 k4 k5 k6 k7 k8;go_enter func18,ntmps18
  go_wp2_with fail;obtain⟨W0,hW0,hb0,hsE,hK,hD,hR⟩:=yG w p s Ab cb As cs A0 c0 A1 c1 A2 c2 A3 c3 A4 c4 A5 c5 A6 c6 kd xa xb xc xn Al l.length cl;rw[hW0];clear hW0;refine(jhp _ _ _ p s xa xb xn (hP'.O _ hb0) (hV.O _ hb0)).mono ?_
  rintro e W1 ⟨V1,rfl,ho1,hb1⟩;have fH:=hR.O _ hb1;have lG:=dK.one ho1;go_wp2_with (refine dB (.tmp 6) (.tmp 92) dH V1 rfl fH rfl lG (λw9 dM je=>?_))
  have wC:=dK.keptBy ho1 je fH (by decide) (by decide) (by decide) (by decide) (by decide) (by decide)
  have hB1:=hb0.trans (hb1.mono hb0.size);have hle:=hb0.size;have dN:=Below.gB hB1 je;go_wp2_with fail;exact jo results18 dM rfl rfl (show nN (count p s xa xb xn) w _ w9 from⟨V1,rfl,wC.from_ hle,dN⟩)
 have q8:(kd==8)=false:=by simpa using k8
 ·rw[show act p s ⟨kd,xa,xb,xc,xn,l⟩=(jD,8)by unfold act;simp only[k1,k2,k3,k4,k5,k6,k7,k8,uH]]
  clear k1 k2 k3 k4 k5 k6 k7 k8;obtain⟨W0,hW0,hb0,hsE,hK,hD,hR⟩:=yG w p s Ab cb As cs A0 c0 A1 c1 A2 c2 A3 c3 A4 c4 A5 c5 A6 c6 kd xa xb xc xn Al l.length cl;subst hW0;have fH:=hR.O _ (aj _ _);go_enter func18,ntmps18
  go_wp2_with (refine dB (.tmp 6) (.tmp 94) dH dH rfl fH rfl rfl (λw9 dM je=>?_))
  have hle:=hb0.size;have dN:=Below.gB hb0 je;go_wp2_with fail;exact jo results18 dM rfl rfl (jQ rfl dN)
end Wh
