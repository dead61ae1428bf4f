/- Texts of the claim, joined. -/
import Derived.BigRegion
import Derived.Test.YtfhfkijmebhgmaaGreatK23
set_option maxHeartbeats 20000000
set_option maxRecDepth 100000
namespace Wh
open Go Go.RowKit Go.Shelf Go.Proofs Go.Maps Tryz
attribute [local go_sem] aT jW jm kC
attribute [local go_sem] Oper.semAt_some
theorem jnN(W:World)(x:dZ):Calls prog 119 (#[um x]++#[]) W λe W'=>e=.returned (.bool (x.n==0))/\Below W.heap.size W W':=by
 have hb0:Below W.heap.size W (W.alloc (.cells #[.int .i64 (x).aC,.int .i64 (x).aG,.int .i64 (x).bin,.int .i64 (x).n] 46)):=(aj _ _).alloc (au _) _;change Calls prog 119 #[um x] W _;unfold um;go_enter func119,ntmps119
 go_wp2_with fail;go_ret
 exact⟨rfl,hb0⟩
theorem jjt:Enters prog 119:=enters_of func119 (by kernel_rfl) rfl
theorem IW{l₀ n0:Nat}{ops:Array Oper}{rest:List Oper}{o:Oper}{a:Act}{w:World}{Q:Exit->Act->World->Prop}(hgd:o.guard=none)(x y:Operand)(ho:o.op=.store 3 x y)(hn:o.dst=none)(b off:Nat)(u:Value)(q:Int)
  (hx:a.eval x=.pointer (some ⟨b,off,none⟩)) (hy:a.eval y=.int .i64 q) (hc:w.cell? ⟨b,off,none⟩=some u) (hf:w.frozen? ⟨b,off,none⟩=false)
  (h:∀w',w.setCell ⟨b,off,none⟩ (.int .i64 q)=w'->wpListIn (Fence.wide.inRound l₀) n0 prog ops Q rest a w'):wpListIn (Fence.wide.inRound l₀) n0 prog ops Q (o::rest) a w:=
 wpListIn_plain hgd λK hK=>by
  have h3:=h _ rfl;clear h;unfold Oper.wpIn;refine⟨λ_ _=>trivial,?_⟩
  rw[Oper.semAt_plain _ _ _ (λc=>by rw[ho];intro e;cases e)]
  simp only[execOp,ho,hx,hy];go_simp
  rw[hn]at*
  exact hK _ _ h3
def jgH(aO b mb:Nat)(V:SV)(s:aJ)(bn g:Nat)(v:Int)(w w':World):Prop:=∃(V':SV) (ov:Int) (D:DataW Unit),V'={V with aA:=V'.aA}/\
 Bx w' aO b 95 (FH bn g ov (.map (some mb))) V' (Nk s bn ((yt s bn g).rest s.aA v))/\Step (ksH b mb V) w w'/\vW s bn g ((yt s bn g).rest s.aA v) 0 D/\w'.ownsMap prog 3 (plainElem prog 3) mb s.aA.length D
theorem jlA(w:World){aO b mb:Nat}{V:SV}{s:aJ}{bn g:Nat}{v:Int}(hB:Bx w aO b 95 (FH bn g v (.map (some mb))) V s)(hb:aO<=b)(hmb:mb<w.heap.size)(hmbb:aO<=mb)(hmap:w.ownsMap prog 3 (plainElem (H:=Unit) prog 3) mb 0 (.map []))
  (hok:iD s.aA=true) (hv: -100000<=v/\v<=100000) (hin:∀i (hi:i<s.aA.length),∃o k:Nat,s.aA[i].aC=o/\s.aA[i].aG=k/\o<s.ak.length/\k<(s.aC o).aH.length)
  (hbk:∀o k:Nat,o<s.ak.length->k<(s.aC o).aH.length->0<=(s.aG o k).dP/\(s.aG o k).dP<=200):
  Calls prog 64 #[.pointer (some ⟨b,0,none⟩)] w λe w'=>e=.returned (.tuple #[])/\jgH aO b mb V s bn g v w w':=by
 have hB':=ah hB;have hB0:=hB;obtain⟨k0,k1,k2,k3,k4,k5,k6,k7,k8⟩:=V;obtain⟨Ah,ch,hvh⟩:=hB.own.aA.isSlice;obtain rfl:k2=.slice Ah s.aA.length ch:=hvh;obtain⟨c0,c1,c2,c3,c4,c5,c6⟩:=hB.cells;simp only at c0 c1 c2 c3 c4 c5 c6
 have hbl:=hB.lt;have h72:=su hok;clear hB hB0;refine(iQ (n:=9)).1 ?_
 refine callsIn_of_wp_marks func64 rfl trivial ?_ rfl
 simp only[ntmps64,jP,dw,dY,Nat.reduceAdd,Nat.reduceSub,jG,jF,kF,jO,iy,jK];refine xI.2 ?_
 go_wp2_with fail;refine((iQ (n:=8)).1 (jcL 8 _ _ _ _)).mono ?_
 rintro e W1 ⟨rfl,rfl⟩;go_wp2_with fail;clear c0 c1 c2 c3 c4 c5 c6;obtain⟨V,hV⟩:∃V:SV,V=⟨k0,k1,.slice Ah s.aA.length ch,k3,k4,k5,k6,k7,k8⟩:=⟨_,rfl⟩;obtain⟨L,hL⟩:∃L:List (Nat×Obj),L=[(w.heap.size,Obj.cells #[.pointer (some ⟨b,0,none⟩)] 91 (0,0)),(w.heap.size+1,Obj.cells #[.slice Ah s.aA.length ch] 28 (0,0))]:=⟨_,rfl⟩;have hba:Below w.heap.size w ((w.alloc (.cells #[.pointer (some ⟨b,0,none⟩)] 91)).alloc (.cells #[.slice Ah s.aA.length ch] 28)):=((aj _ _).alloc (au _) _).alloc (by simp) _
 have hH0:pU L ((w.alloc (.cells #[.pointer (some ⟨b,0,none⟩)] 91)).alloc (.cells #[.slice Ah s.aA.length ch] 28)):=by
  intro x hx;rw[hL]at hx
  simp at hx
  rcases hx with rfl|rfl
  ·exact(qY (by simp)).trans (og rfl)
  ·exact og (by simp)
 have hs2:((w.alloc (.cells #[.pointer (some ⟨b,0,none⟩)] 91)).alloc (.cells #[.slice Ah s.aA.length ch] 28)).heap.size=w.heap.size+1+1:=by simp
 have hI0:UG w aO b mb V s bn g v s.aA s.aA.length L ((w.alloc (.cells #[.pointer (some ⟨b,0,none⟩)] 91)).alloc (.cells #[.slice Ah s.aA.length ch] 28)):=
  ⟨by rw[jiJ,hV];exact hB'.O.below hba,hH0,.of_below hba,_,vW.start,by rw[rM];exact hmap.kept (nV (row:=none) hba) (by simp)⟩
 generalize (w.alloc (.cells #[.pointer (some ⟨b,0,none⟩)] 91)).alloc (.cells #[.slice Ah s.aA.length ch] 28)=w2 at hba hH0 hs2 hI0 ⊢
 have jgk:∀x∈L,x.1<w2.heap.size:=hH0.lt;have hw2:w.heap.size<=w2.heap.size:=hba.size;have wK:∀x∈s.aA,0<=(yt s bn g).num x:=λx hx=>by have:=(nI.1 ((gG.1 hok).1 x hx)).2.1;show 0<=x.n;omega
 have hks:=ah (show ∀j,ksH b mb V j->j<w.heap.size from λj hj=>by
  rcases hj with rfl|h|rfl|⟨o,ho,h⟩
  ·exact hbl
  ·rw[hV]at h
   exact(hB'.O.own.aA.size j h).2
  ·exact hmb
  ·rw[hV]at h ho
   exact((hB'.O.own.aG o (by rw[<- hB'.O.own.llen];exact ho)).size j h).2)
 refine(xI (n:=9)).1 ?_
 refine XP (s1:=2) (s2:=3) 9 (by omega) (w.heap.size+1) Ah ch s.aA (by omega) rfl
  (λk W=>k<=s.aA.length/\UG w aO b mb V s bn g ((yt s bn g).mid s.aA v (s.aA.length - k)).2 ((yt s bn g).mid s.aA v (s.aA.length - k)).1 (s.aA.length - k) L W)
  (λk X Y row hs hg hr=>⟨hs.1,hs.2.own jgk hw2 hmb hg hr⟩) ⟨aK _,by rw[Nat.sub_zero,gX.je3];exact hI0⟩ ?hR ?hsz ?A8 ?hbody ?Hl
 case hR=>
  intro k W ⟨hk,hI⟩;refine⟨Boxed.cell (show Boxed W (w.heap.size+1) 28 (.slice Ah s.aA.length ch)from hI.held (w.heap.size+1,Obj.cells #[.slice Ah s.aA.length ch] 28 (0,0)) (by rw[hL];simp)),λi hi=>?_⟩
  have kD:=gX.O6 (C:=yt s bn g) s.aA v (s.aA.length - k);obtain⟨gm,c',cur,e1,_,_,q0,q1,q2,q3⟩:=hI.bx.own.yR (k:=i) (by show i<(gX.mid _ _ _ _).1.length;rw[kD];omega)
  have he:hold ((yt s bn g).mid s.aA v (s.aA.length - k)).1 i=hold s.aA i:=by
   unfold hold;rw[dU,gX.ZN v (i:=i) (by omega) (by omega),dU,bf (by omega)]
  rw[hV]at e1
  injection e1 with e1
  change W.cell? _=some (.int .i64 (hold ((yt s bn g).mid s.aA v (s.aA.length - k)).1 i).aC)at q0
  change W.cell? _=some (.int .i64 (hold ((yt s bn g).mid s.aA v (s.aA.length - k)).1 i).aG)at q1
  change W.cell? _=some (.int .i64 (hold ((yt s bn g).mid s.aA v (s.aA.length - k)).1 i).bin)at q2
  change W.cell? _=some (.int .i64 (hold ((yt s bn g).mid s.aA v (s.aA.length - k)).1 i).n)at q3
  rw[he]at q0 q1 q2 q3
  exact⟨gm,e1,q0,q1,q2,q3⟩
 case hsz=>
  intro k W ⟨hk,hI⟩;have:=hI.held.lt (w.heap.size+1,Obj.cells #[.slice Ah s.aA.length ch] 28 (0,0)) (by rw[hL];simp)
  simp only at this
  omega
 case A8=>
  intro l x W K hK;simp only[bM,dF,dL]at hK ⊢
  unfold um at hK ⊢
  gi_wp2
  exact hK
 case hbody=>
  intro l k x X W hxk ⟨hk,hI⟩ hbX hX;simp only[bM,dF,dL];unfold um;have hxl:x<s.aA.length:=by omega
  have ek:s.aA.length - k=x+1:=by omega
  have ek1:s.aA.length - (k+1)=x:=by omega
  rw[ek]at hI
  rw[ek1];have hmx:hold s.aA x=s.aA[x]:=by unfold hold;simp[hxl]
  have hfx:=(nI.1 ((gG.1 hok).1 _ (bU hxl)));have hNx:=hfx.2;have hkx:=hfx.1;unfold sD at hkx
  obtain⟨o,kk,hox,hlx,ho,hkk⟩:=hin x hxl;have hokk:o<=3/\kk<=2:=by omega
  have hov:=gX.VO wK v (x+1);have FB:=λh=>gX.jhK (C:=yt s bn g) v hxl h
  have KR:=λh=>gX.je4 (C:=yt s bn g) v hxl h
  have hat:=gX.ZN (C:=yt s bn g) v (i:=x) (j:=x+1) hxl (by omega)
  have hml:=gX.O6 (C:=yt s bn g) s.aA v (x+1);have hmk:=gX.je5 (C:=yt s bn g) xB (λ_ _=>rfl) s.aA v (x+1)
  obtain⟨M,ov,hmid⟩:∃M ov,(yt s bn g).mid s.aA v (x+1)=(M,ov):=⟨_,_,rfl⟩;rw[hmid]at hI hov FB KR hat hml hmk
  simp only at hI hov FB hat hml hmk
  have hMx:x<M.length:=by omega
  have hML:M[x]=s.aA[x]:=by
   rw[bf hMx]at hat
   exact dQ hat
  have hI':=ah hI;clear hmid hat hI;have x0:=hbX.cell (j:=0) rfl;have x1:=hbX.cell (j:=1) rfl;have x2:=hbX.cell (j:=2) rfl;rw[hmx]at x0 x1 x2 ⊢
  rw[hox]at x0
  rw[hlx]at x1
  have y0:W.cell? ⟨w.heap.size,0,none⟩=some (.pointer (some ⟨b,0,none⟩)):=Boxed.cell (show Boxed W w.heap.size 91 (.pointer (some ⟨b,0,none⟩))from hI'.O.held (w.heap.size,Obj.cells #[.pointer (some ⟨b,0,none⟩)] 91 (0,0)) (by rw[hL];simp))
  have z1:=hI'.O.bx.box.cell (j:=7) rfl;have z2:=hI'.O.bx.box.cell (j:=8) rfl;have l0:=hI'.O.held.lt (w.heap.size,Obj.cells #[.pointer (some ⟨b,0,none⟩)] 91 (0,0)) (by rw[hL];simp)
  simp only at l0
  have lb:b<W.heap.size:=hI'.O.bx.lt;have lX:=hbX.lt;have ho':o<(Nk s bn M).ak.length:=by show o<(hdO s bn M).length;rw[RG];exact ho
  have hkk':kk<((Nk s bn M).aC o).aH.length:=by rw[SX ho];exact hkk
  obtain⟨go,co,jjB,eo,hgo,Ob,oc0,oc1⟩:=hI'.O.bx.own.aU ho';obtain⟨gl,cl,curl,el,hgl,jiZ,lc0,lc1,lc2,lc3⟩:=hI'.O.bx.own.gK ho' hkk';have hlo:(Nk s bn M).ak.length=s.ak.length:=RG;have hll:((Nk s bn M).aC o).aH.length=(s.aC o).aH.length:=SX ho;have hln:=jb0 (b:=(bn:Int)) (l:=M) ho hkk;rw[hlo]at eo
  rw[hll]at el
  rw[hln]at lc0 lc3
  simp only at lc0 lc3
  rw[el]at oc1
  have z0:=hI'.O.bx.cells.2.1;rw[eo]at z0
  have hoi:(o:Int)<(s.ak.length:Int):=by omega
  have hki:(kk:Int)<((s.aC o).aH.length:Int):=by omega
  have jra:=Ob.lt;have jiF:=jiZ.lt;have jrg:=ah el;have jiB:=ah hln;have hlc3:=ah lc3;have hmk':=ah hmk;have hml':=ah hml;have jcb:=ah hML;have jdU:=ah hox;have jdZ:=ah hlx;clear hlo hll hln eo el lc1 lc2 lc3 oc0 hmk hml hML hox hlx ho' hkk';have q1:=λo d os=>bY (w:=W) (b:=X) lX o d os
  have q2:=λo d os=>bY (w:=W) (b:=w.heap.size) l0 o d os
  have q3:=λo d os=>bY (w:=W) (b:=b) lb o d os
  have q4:=λo d os=>bY (w:=W) (b:=go) jra o d os
  have q5:=λo d os=>bY (w:=W) (b:=gl) jiF o d os
  have jlf:=ah hbX;clear hbX;gi_wp2_with fail
  refine uI (by kernel_rfl) (by kernel_rfl) (by kernel_rfl) ?_
  repeat(go_big_quiet_step (fail))
  refine wpQuiet_nil ?_
  intro W5 hw5;have hb5:=dD hw5;clear hw5;clear q1 q2 q3 q4 q5 oc1 z0;have hI5:=ah (hI'.O.below hb5);have jrz:=ah (jlf.O.below hb5 lX);have l05:=aI l0 hb5.size;have lb5:=aI lb hb5.size;have lX5:=aI lX hb5.size;have jrd:=aI jiF hb5.size;have x2:=(hb5.cell (p:=⟨X,2,none⟩) lX).trans x2;have y0:=(hb5.cell (p:=⟨w.heap.size,0,none⟩) l0).trans y0;have z1:=(hb5.cell (p:=⟨b,7,none⟩) lb).trans z1;have z2:=(hb5.cell (p:=⟨b,8,none⟩) lb).trans z2;have lc0:=(hb5.cell (p:=⟨gl,kk*4,none⟩) jiF).trans lc0;have jiY:=ah (jiZ.below hb5 jiF);clear hI' jlf l0 lb lX jiF jra Ob jiZ x0 x1;have q1:=λo d os=>bY (w:=W5) (b:=X) lX5 o d os
  have q2:=λo d os=>bY (w:=W5) (b:=w.heap.size) l05 o d os
  have q3:=λo d os=>bY (w:=W5) (b:=b) lb5 o d os
  have q5:=λo d os=>bY (w:=W5) (b:=gl) jrd o d os
  by_cases h1:s.aA[x].bin=bn
  ·have t1:(s.aA[x].bin !=(bn:Int))=false:=by simpa using h1
   by_cases h2:(s.aG o kk).dh=g
   ·have t2:((s.aG o kk).dh !=(g:Int))=false:=by simpa using h2
    have his:(yt s bn g).is s.aA[x]=true:=ES.2 ⟨h1,by rw[jdU.O,jdZ.O];exact h2⟩
    have hst:=ah (FB his);have Z9:=ah his;clear FB KR h1 h2 his;gi_wp2_with fail
    refine uI (by kernel_rfl) (by kernel_rfl) (by kernel_rfl) ?_
    repeat(go_big_quiet_step (fail))
    refine wpQuiet_nil ?_
    intro W6 hw6;have hb6:=dD hw6;clear hw6;clear q1 q2 q3 q5 t1 t2;have hI6:=ah (hI5.O.below hb6);have ji4:=ah (jrz.O.below hb6 lX5);have hblkl6:=ah (jiY.O.below hb6 jrd);have y6:=(hb6.cell (p:=⟨w.heap.size,0,none⟩) l05).trans y0;have x3:=ji4.O.cell (j:=3) rfl;rw[hmx]at x3
    have jtZ:=hb5.trans (hb6.mono hb5.size);clear hI5 jrz jiY y0 z1 z2 lc0 x2;gi_wp2_with fail
    refine⟨trivial,CallsIn.inRound l (iQ.2 ((jjC W6 s.aA[x].n hI6.O.bx (by omega) (by omega)).mono ?_))⟩
    rintro e W7 ⟨rfl,hx7,hs7⟩;have hst':=hst.O;change(yt s bn g).mid s.aA v x=(M.set x {s.aA[x]with n:=s.aA[x].n - gX.less ov s.aA[x].n},ov - gX.less ov s.aA[x].n)at hst'
    obtain⟨n0,hn0⟩:∃n0,s.aA[x].n=n0:=⟨_,rfl⟩;rw[hn0]at hst' hx7 x3 hNx ⊢
    obtain⟨mm,hmm⟩:∃mm,gX.less ov n0=mm:=⟨_,rfl⟩;have jkU:0<=mm/\mm<=n0:=by rw[<- hmm];unfold gX.less;omega
    rw[hmm]at hst' hx7 ⊢
    have hst2:=ah hst';have jnv:=ah hn0;clear hst hst' hn0 hmm;have l06:=aI l05 hb6.size;have y7:=(hs7.cell (p:=⟨w.heap.size,0,none⟩) l06 (by show ¬w.heap.size=b;omega)).trans y6
    obtain⟨gh,c',cur,e1,jtM,jlc,_,_,_,p3⟩:=hI6.O.bx.own.yR (k:=x) (show x<M.length by have:=hml'.O;omega)
    have jme:(Nk s bn M).aA.length=s.aA.length:=hml'.O;rw[jme,hV]at e1
    injection e1 with e1 e2 e3
    clear e2 e3 jme;subst e1;have hgM:hold (Nk s bn M).aA x=s.aA[x]:=by
     show hold M x=_;rw[<- jcb.O];exact iL (by have:=hml'.O;omega)
    rw[hgM,jnv.O]at p3
    have jiH:gh≠b:=iV.ne jlc hI6.O.bx.box (by decide)
    have jn0:=hs7.blk jlc jiH;have p37:=(hs7.cell (p:=⟨gh,x*4+3,none⟩) jlc.lt jiH).trans p3;have z7:W7.cell? ⟨b,2,none⟩=some (.slice (some ⟨gh,0,none⟩) s.aA.length ch):=by
     have:=hx7.cells.2.2.1;rw[hV]at this
     exact this
    have hxi:(x:Int)<(s.aA.length:Int):=by omega
    have hwn:IntKind.i64.wrap (n0 - mm)=n0 - mm:=aN _ (by omega)
    have zx:=ah hx7;have jkM:=ah hs7;clear hx7 hs7 jlc p3 hgM;gi_wp2_with (refine IW rfl (.tmp 61) (.tmp 59) rfl rfl gh (x*4+3) _ (n0 - mm) rfl rfl p37 (jn0.frozen _) (λw8 hw8=>?_);refine aW ?_)
    unfold Hid;have jje:x<M.length:=by have:=hml'.O;omega
    have X6:dK W7 aO ⟨k0,k1,.slice (some ⟨gh,0,none⟩) s.aA.length ch,k3,k4,k5,k6,k7,k8⟩ (Nk s bn M):=by
     have:=zx.O.own;rw[hV]at this
     exact this
    obtain⟨o1,hg1⟩:=Own.store X6.aA (λ_=>rfl) (i:=x) jje (show 3<4 by omega) (y:={s.aA[x]with n:=n0 - mm}) (u:=.int .i64 (n0 - mm)) (by
     show ig _=(ig (M[x]'jje)).set 3 _;rw[jcb.O];rfl)
    rw[hw8]at o1 hg1
    have Xw:dK w8 aO ⟨k0,k1,.slice (some ⟨gh,0,none⟩) s.aA.length ch,k3,k4,k5,k6,k7,k8⟩ {Nk s bn M with aA:=M.set x {s.aA[x]with n:=n0 - mm}}:=X6.U4 hg1 o1
    have jnS:iV w8 b 95 (V.cells++FH bn g (ov - mm) (.map (some mb))):=zx.O.box.grown hg1 (by intro he;injection he with he;exact jiH he.symm)
    have hs8:Step (ksH b mb V) W6 w8:=(jkM.O.mono λj hj=>.inl hj).trans (Step.jR hg1 λj hj=>.inr (.inl (by rw[hV,<- hj];rfl)))
    have hm8:∃D,vW s bn g M (x+1) D/\w8.ownsMap prog 3 (plainElem prog 3) mb (s.aA.length - (x+1)) D:=by
     obtain⟨D,h1,h2⟩:=hI6.O.mp;have h3:=AP h2 jkM.O (λhe=>CU h2 hI6.O.bx.box he)
     exact⟨D,h1,h3.kept hg1 (by intro he;injection he with he;exact CU h3 jn0 he)⟩
    have y8:=(hg1.block w.heap.size (aI l06 jkM.O.size) (by intro he;injection he with he;have:=(hB'.O.own.aA.size gh rfl).2;omega))
    have y8':w8.cell? ⟨w.heap.size,0,none⟩=some (.pointer (some ⟨b,0,none⟩)):=by
     have:w8.cell? ⟨w.heap.size,0,none⟩=W7.cell? ⟨w.heap.size,0,none⟩:=by unfold World.cell?;rw[y8]
     rw[this];exact y7
    have hkz:bW s.aA o kk bn - bW M o kk bn=0:=by
     have h1:=Dy (Jc hok) hxl;have h2:=Dy (l:=M) (by rw[hmk'.O];exact Jc hok) jje
     rw[jcb.O]at h2
     have h3:=(ES.1 Z9.O).1;rw[jdU.O,jdZ.O,h3]at h1 h2
     omega
    have hbk0:=hbk o kk ho hkk;have hgx:xB s.aA[x]=xB s.aA[x]:=rfl;have jjb:(V.aG o)=.slice (some ⟨gl,0,none⟩) (s.aC o).aH.length cl:=jrg.O;have hol:o<({Nk s bn M with aA:=M.set x {s.aA[x]with n:=n0 - mm}}:aJ).ak.length:=by show o<(hdO s bn M).length;rw[RG];exact ho
    have hkl:kk<(aJ.aC {Nk s bn M with aA:=M.set x {s.aA[x]with n:=n0 - mm}} o).aH.length:=by
     show kk<((Nk s bn M).aC o).aH.length;rw[SX ho];exact hkk
    have TT:aJ.aG {Nk s bn M with aA:=M.set x {s.aA[x]with n:=n0 - mm}} o kk={s.aG o kk with dP:=(s.aG o kk).dP+(bW s.aA o kk bn - bW M o kk bn)}:=jiB.O
    rw[hkz,jC]at TT
    rw[hV]at jjb
    obtain⟨XZ,_,_,_,lc8⟩:=Xw.sV hol hkl jjb;rw[TT]at lc8
    obtain⟨curl8,jla⟩:=jkB Xw hol hkl jjb;have jrb:gl≠b:=iV.ne jla jnS (by decide)
    have hwb:IntKind.i64.wrap ((s.aG o kk).dP+mm)=(s.aG o kk).dP+mm:=aN _ (by omega)
    have jak:=ah Xw;have jrk:=ah jnS;have jtg:=ah hs8;have jtr:=ah hm8;have jnA:=ah TT;have jrR:=ah jjb;have jtB:=ah hkz;clear X6 o1 hg1 Xw jnS hs8 hm8 y8 hgx hw8 zx jkM y7 z7 p37 jn0 TT jjb hkz hwn;gi_wp2_with (refine IW rfl (.tmp 69) (.tmp 67) rfl rfl gl (kk*4+3) _ ((s.aG o kk).dP+mm) rfl rfl lc8 (jla.frozen _) (λw9 hw9=>?_);refine aW ?_)
    unfold Hid;obtain⟨wC,je⟩:=jak.O.lY hol hkl jrR.O (show 3<4 by omega) (y:={s.aG o kk with dP:=(s.aG o kk).dP+mm}) (u:=.int .i64 ((s.aG o kk).dP+mm)) (by rw[jnA.O];rfl)
    rw[hw9]at wC je
    have hdst:Nk s bn (M.set x {s.aA[x]with n:=n0 - mm})=({Nk s bn M with aA:=M.set x {s.aA[x]with n:=n0 - mm}}:aJ).lY o kk {s.aG o kk with dP:=(s.aG o kk).dP+mm}:=by
     have:=jiI (s:=s) (b:=bn) (l:=M) (j:=x) (o:=o) (k:=kk) (m:=mm) (by rw[hmk'.O];exact Jc hok) jje (by rw[jcb.O];exact jdU.O) (by rw[jcb.O];exact jdZ.O) (by rw[jcb.O];exact(ES.1 Z9.O).1) ho hkk
     rw[jcb.O,jnv.O]at this
     rw[this,jiB.O,jtB.O,jC]
    have Hq:iV w9 b 95 (V.cells++FH bn g (ov - mm) (.map (some mb))):=jrk.O.grown je (by intro he;injection he with he;exact jrb he.symm)
    have uO:Bx w9 aO b 95 (FH bn g (ov - mm) (.map (some mb))) V (Nk s bn (M.set x {s.aA[x]with n:=n0 - mm})):=⟨Hq,by rw[hV,hdst];exact wC,jfw⟩
    have hs9:Step (ksH b mb V) W6 w9:=jtg.O.trans (Step.jR je λj hj=>.inr (.inr (.inr ⟨o,by rw[hI6.O.bx.own.llen];show o<(hdO s bn M).length;rw[RG];exact ho,by rw[jrg.O,<- hj];rfl⟩)))
    have hm9:∃D,vW s bn g M (x+1) D/\w9.ownsMap prog 3 (plainElem prog 3) mb (s.aA.length - (x+1)) D:=by
     obtain⟨D,h1,h2⟩:=jtr.O;exact⟨D,h1,h2.kept je (by intro he;injection he with he;exact CU h2 jla he)⟩
    have jqu:=aI l05 hb6.size;have lX6:=aI lX5 hb6.size;have y9:=(hs9.cell (p:=⟨w.heap.size,0,none⟩) jqu (λh=>by have:=hks.O _ h;simp only at this;omega)).trans y6
    have x09:=(hs9.cell (p:=⟨X,0,none⟩) lX6 (λh=>by have:=hks.O _ h;simp only at this;omega)).trans (ji4.O.cell (j:=0) rfl)
    have x19:=(hs9.cell (p:=⟨X,1,none⟩) lX6 (λh=>by have:=hks.O _ h;simp only at this;omega)).trans (ji4.O.cell (j:=1) rfl)
    have z9:=Hq.cell (j:=10) rfl;rw[hmx,jdU.O]at x09
    rw[hmx,jdZ.O]at x19
    have jtu:w.heap.size<w9.heap.size:=aI jqu hs9.size;have jq6:X<w9.heap.size:=aI lX6 hs9.size;have jtA:b<w9.heap.size:=Hq.lt;have hH9:pU L w9:=λy hy=>hs9.heap (hI6.O.held y hy) (λh=>by
     have:=hks.O _ h;rw[hL]at hy
     simp at hy
     rcases hy with rfl|rfl<;>simp only at this<;>omega)
    have Dj:=ah uO;have jtf:=ah hs9;have jtq:=ah hm9;have jr1:=ah hH9;have hk3:kk<3:=by omega
    have hw1:IntKind.i64.wrap ((o:Int)*3)=(o:Int)*3:=aN _ (by omega)
    have jm7:IntKind.i64.wrap ((o:Int)*3+kk)=(o:Int)*3+kk:=aN _ (by omega)
    have hw3:IntKind.i64.wrap mm=mm:=aN _ (by omega)
    clear wC je Hq uO hs9 hm9 hH9 hdst hw9 lc8 jla y8' hwb y6 x3 jje;gi_wp2_with fail
    obtain⟨D,hD1,hD2⟩:=jtq.O;have xB:keyOf prog 3 (.int .i64 ((o:Int)*3+kk))=some (L6 ((o:Int)*3+kk)):=jhR (by omega)
    have hfresh:has D (L6 ((o:Int)*3+kk))=false:=by
     have:=hD1.fresh hok hxl Z9.O;rw[jdU.O,jdZ.O]at this
     exact this
    have hlook:∀w',Below w9.heap.size w9 w'->(Instr.lookup 93 (.map (some mb)) (.int .i64 ((o:Int)*3+kk)) false).run prog w'=.ok (.int .i64 0) w':=λw' hb=>by
     obtain⟨c,h1,h2,_⟩:=(hD2.kept (nV (row:=none) hb) (by simp)).lookup_int ZQ underlying93 underlying3 (jeJ w') xB
     rw[atKey_of_not_has hfresh]at h2
     injection h2 with h2
     injection h2 with _ h2
     rw[<- h2]at h1
     exact h1
    have hlook':=ah hlook;have hfresh':=ah hfresh;clear hlook hfresh;refine IX (by kernel_rfl) (λh=>by obtain⟨_,_,h⟩:=h;exact h) (by kernel_rfl) (jfx 13 [
     λg' _=>g' 70=.pointer (some ⟨b,0,none⟩),λg' _=>g' 71=.pointer (some ⟨b,0,none⟩),λg' _=>g' 72=.pointer (some ⟨b,10,none⟩),λg' _=>g' 73=.map (some mb),λg' _=>g' 74=.pointer (some ⟨X,0,none⟩),λg' _=>g' 75=.int .i64 o,λg' _=>g' 76=.int .i64 ((o:Int)*3),λg' _=>g' 77=.pointer (some ⟨X,1,none⟩),λg' _=>g' 78=.int .i64 kk,λg' _=>g' 79=.int .i64 ((o:Int)*3+kk),λg' _=>g' 80=.int .i64 0,λg' _=>g' 81=.int .i64 mm,λg' _=>g' 82=.int .i64 mm] (by kernel_rfl) rfl (by kernel_rfl) ?jqj (λf w10 hT hR=>?jqk))
    case jqj=>
     simp only[bC,bV];refine dX.cons (iR.val rfl rfl (λgq w' hb ho hd=>?_)) ?_
     ·have e1:=ho 1 rfl;have e2:=(hb.cell (p:=⟨w.heap.size,0,none⟩) jtu).trans y9;go_simp
     refine dX.cons (iR.val rfl rfl (λgq w' hb ho hd=>?_)) ?_
     ·have e1:gq 70=.pointer (some ⟨b,0,none⟩):=hd ⟨0,.data⟩ (by simp) rfl (by decide)
      go_simp
     refine dX.cons (iR.val rfl rfl (λgq w' hb ho hd=>?_)) ?_
     ·have e1:gq 71=.pointer (some ⟨b,0,none⟩):=hd ⟨1,.data⟩ (by simp) rfl (by decide)
      go_simp
     refine dX.cons (iR.val rfl rfl (λgq w' hb ho hd=>?_)) ?_
     ·have e1:gq 72=.pointer (some ⟨b,10,none⟩):=hd ⟨2,.data⟩ (by simp) rfl (by decide)
      have e2:=(hb.cell (p:=⟨b,10,none⟩) jtA).trans z9;go_simp
     refine dX.cons (iR.val rfl rfl (λgq w' hb ho hd=>?_)) ?_
     ·have e1:=ho 3 rfl;go_simp
     refine dX.cons (iR.val rfl rfl (λgq w' hb ho hd=>?_)) ?_
     ·have e1:gq 74=.pointer (some ⟨X,0,none⟩):=hd ⟨4,.data⟩ (by simp) rfl (by decide)
      have e2:=(hb.cell (p:=⟨X,0,none⟩) jq6).trans x09;go_simp
     refine dX.cons (iR.val rfl rfl (λgq w' hb ho hd=>?_)) ?_
     ·have e1:gq 75=.int .i64 o:=hd ⟨5,.data⟩ (by simp) rfl (by decide)
      go_simp
     refine dX.cons (iR.val rfl rfl (λgq w' hb ho hd=>?_)) ?_
     ·have e1:=ho 3 rfl;go_simp
     refine dX.cons (iR.val rfl rfl (λgq w' hb ho hd=>?_)) ?_
     ·have e1:gq 77=.pointer (some ⟨X,1,none⟩):=hd ⟨7,.data⟩ (by simp) rfl (by decide)
      have e2:=(hb.cell (p:=⟨X,1,none⟩) jq6).trans x19;go_simp
     refine dX.cons (iR.val rfl rfl (λgq w' hb ho hd=>?_)) ?_
     ·have e1:gq 76=.int .i64 ((o:Int)*3):=hd ⟨6,.data⟩ (by simp) rfl (by decide)
      have e2:gq 78=.int .i64 kk:=hd ⟨8,.data⟩ (by simp) rfl (by decide)
      go_simp
     refine dX.cons (iR.val rfl rfl (λgq w' hb ho hd=>?_)) ?_
     ·have e1:gq 73=.map (some mb):=hd ⟨3,.data⟩ (by simp) rfl (by decide)
      have e2:gq 79=.int .i64 ((o:Int)*3+kk):=hd ⟨9,.data⟩ (by simp) rfl (by decide)
      have e3:=hlook'.O w' hb;simp only[execOp,jW,e1,e2,jg,e3,Result.andThen,jw]
     refine dX.cons (iR.val rfl rfl (λgq w' hb ho hd=>?_)) ?_
     ·have e1:=ho 5 rfl;go_simp
     refine dX.cons (iR.val rfl rfl (λgq w' hb ho hd=>?_)) ?_
     ·have e1:gq 80=.int .i64 0:=hd ⟨10,.data⟩ (by simp) rfl (by decide)
      have e2:gq 81=.int .i64 mm:=hd ⟨11,.data⟩ (by simp) rfl (by decide)
      go_simp
     exact dX.nil
    case jqk=>
     obtain⟨r70,r71,r72,r73,r74,r75,r76,r77,r78,r79,r80,r81,r82,_⟩:=hR;simp only[kG,zB,bC,bV,eG,gW,eX,fF,fB,gV,bM,dF,dL,r70,r71,r72,r73,r74,r75,r76,r77,r78,r79,r80,r81,r82];clear r70 r71 r72 r73 r74 r75 r76 r77 r78 r79 r80 r81 r82;have jq2:=hD2.kept (nV (row:=none) hT) (by simp)
     refine wpList_mapUpdate_own _ rfl (.tmp 73) (.tmp 79) (.tmp 82) 93 rfl 3 3 ZQ underlying93 _ mb (s.aA.length - (x+1)) D rfl jq2 (by unfold maxLen;omega) _ _ (L6 ((o:Int)*3+kk)) rfl rfl xB (.lit (.int .i64 mm)) [] (plainElem_int underlying3 (WalkArith.wf_i64 (by omega))) ?_
     intro w11 jdW jgd;refine fC ?_
     have Dz:=Dj.O.below hT;have XV:=Dz.wB jgd (λr e=>by injection e with e;subst e;exact JL jq2)
     have hs11:Step (ksH b mb V) W6 w11:=(jtf.O.trans (.of_below hT)).trans (Step.jR jgd λj hj=>.inr (.inr (.inl (by injection hj with hj;exact hj.symm))))
     have juh:pU L w11:=λy hy=>by
      have h1:w10.heap[y.1]?=some y.2:=(hT.block y.1 (jr1.O.lt y hy)).trans (jr1.O y hy);refine(jgd.block y.1 (bJ.1 h1).1 λhe=>?_).trans h1
      have hm:=hks.O mb (.inr (.inr (.inl rfl)));injection he with he
      rw[hL]at hy
      simp at hy
      rcases hy with rfl|rfl<;>simp only at he<;>omega
     have hput:=hD1.put hok hxl Z9.O jdU.O jdZ.O hk3 hmk'.O (by have:=hml'.O;omega) jcb.O (m:=mm)
     rw[jnv.O]at hput
     have bK:KeepsFrom w2.heap.size W w11/\(k+1<=s.aA.length/\UG w aO b mb V s bn g ((yt s bn g).mid s.aA v x).2 ((yt s bn g).mid s.aA v x).1 x L w11):=by
      refine⟨(Di jtZ).trans (XR hs11 λj hj=>aI (hks.O j hj) hw2),by omega,?_⟩
      rw[hst2.O];exact⟨XV,juh,hI6.O.st.trans hs11,_,hput,jdW.mono (by omega)⟩
     exact bK
   ·have t2:((s.aG o kk).dh !=(g:Int))=true:=by simpa using h2
    have hno:(yt s bn g).is s.aA[x]=false:=by
     cases hq:(yt s bn g).is s.aA[x]
     ·rfl
     ·have:=(ES.1 hq).2;rw[jdU.O,jdZ.O]at this
      exact absurd this h2
    have hst:=ah (KR hno);have hno':=ah hno;clear FB KR h1 h2 hno;gi_wp2_with fail
    refine uI (by kernel_rfl) (by kernel_rfl) (by kernel_rfl) ?_
    repeat(go_big_quiet_step (fail))
    refine wpQuiet_nil ?_
    intro W6 hw6;have hb6:=dD hw6;clear hw6;clear q1 q2 q3 q5 t1 t2 y0 z1 z2 lc0 x2;gi_wp2_with fail
    exact⟨Di (hb5.trans (hb6.mono hb5.size)),by omega,by rw[hst.O];exact(hI5.O.below hb6).skip hxl hno'.O⟩
  ·have t1:(s.aA[x].bin !=(bn:Int))=true:=by simpa using h1
   have hno:(yt s bn g).is s.aA[x]=false:=by
    cases hq:(yt s bn g).is s.aA[x]
    ·rfl
    ·exact absurd (ES.1 hq).1 h1
   have hst:=ah (KR hno);have hno':=ah hno;clear FB KR h1 hno;gi_wp2_with fail
   refine uI (by kernel_rfl) (by kernel_rfl) (by kernel_rfl) ?_
   repeat(go_big_quiet_step (fail))
   refine wpQuiet_nil ?_
   intro W6 hw6;have hb6:=dD hw6;clear hw6;clear q1 q2 q3 q5 t1 y0 z1 z2 lc0 x2;gi_wp2_with fail
   exact⟨Di (hb5.trans (hb6.mono hb5.size)),by omega,by rw[hst.O];exact(hI5.O.below hb6).skip hxl hno'.O⟩
 case Hl=>
  intro D W hD ⟨hk,hI⟩ hWd;rw[rM]at hI
  have hmv:(yt s bn g).rest s.aA v=((yt s bn g).mid s.aA v 0).1.filter λx=>!(x.n==0):=by
   rw[gX.mid_zero];unfold gX.rest;refine kX (λf=>List.filter f ((yt s bn g).cut s.aA v).1) (funext λx=>?_)
   show(!decide (x.n=0))= !(x.n==0);by_cases hx:x.n=0<;>simp[hx]
  have hml:=gX.O6 (C:=yt s bn g) s.aA v 0;obtain⟨M,ov,hmid⟩:∃M ov,(yt s bn g).mid s.aA v 0=(M,ov):=⟨_,_,rfl⟩;rw[hmid]at hI hml hmv
  simp only at hI hml hmv
  have jkS:=ah hmv;have hmid':=ah hmid;clear hmv hmid;have hI':=ah hI;have y0:W.cell? ⟨w.heap.size,0,none⟩=some (.pointer (some ⟨b,0,none⟩)):=Boxed.cell (show Boxed W w.heap.size 91 (.pointer (some ⟨b,0,none⟩))from hI.held (w.heap.size,Obj.cells #[.pointer (some ⟨b,0,none⟩)] 91 (0,0)) (by rw[hL];simp))
  have l0:=hI.held.lt (w.heap.size,Obj.cells #[.pointer (some ⟨b,0,none⟩)] 91 (0,0)) (by rw[hL];simp)
  simp only at l0
  have c3:=hI.bx.cells.2.2.1;rw[hV]at c3
  simp only at c3
  have hnb:=ah (show ∀j,(Value.slice Ah s.aA.length ch).ownBlock=some j->j≠b/\j<w.heap.size from λj hj=>by
   refine⟨λhe=>?_,(hB'.O.own.aA.size j hj).2⟩
   rcases hI.bx.own.aA.mQ hI.bx.box (by decide)with h|h
   ·rw[hV]at h;simp only at h;rw[h]at hj;cases hj
   ·rw[hV]at h;exact h (by rw[<- he];exact hj))
  have lb:b<W.heap.size:=hI.bx.lt;have hLD:D≠b:=by omega
  clear hI;gi_wp2_with fail
  have jix:=ah hml;clear hml;refine Fa 10 (λw'=>Step (λj=>(Value.slice Ah s.aA.length ch).ownBlock=some j) W w') (λw'=>Below W.heap.size W w') (λw1 w2=>Step (λj=>(Value.slice Ah s.aA.length ch).ownBlock=some j) w1 w2) 6 [
   λg' _=>g' 83=.pointer (some ⟨b,0,none⟩),λg' _=>g' 84=.pointer (some ⟨b,0,none⟩),λg' _=>g' 85=.pointer (some ⟨b,0,none⟩),λg' _=>g' 86=.pointer (some ⟨b,0,none⟩),λg' _=>g' 87=.pointer (some ⟨b,2,none⟩),λg' _=>g' 88=.slice Ah s.aA.length ch,λg' w'=>Own ig 4 46 w' aO (g' 89) (M.filter λx=>!(x.n==0)),λg' _=>g' 90=.pointer (some ⟨b,0,none⟩),λg' _=>g' 91=.pointer (some ⟨b,0,none⟩),λg' _=>g' 92=.pointer (some ⟨b,2,none⟩)] (by kernel_rfl) (by kernel_rfl) rfl (by kernel_rfl)
   (λw1 w2 h hb=>h.trans (.of_below hb)) (λw1 w2 h h'=>h.trans h') (λw1 w2 h hb=>h.trans (hb.mono h.size)) (.of_below (aj _ _).drew) (aj _ _).drew ?jjy (λf w9 hT hR=>?jjz)
  case jjy=>
   simp only[bC,bV];refine iW.cons (mX.val rfl rfl (by decide) (λgq w' hT ho hd=>?_)) ?_
   ·have e1:=ho 1 rfl;have e2:=(hT.cell (p:=⟨w.heap.size,0,none⟩) l0 (λh=>by have:=(hnb.O _ h).2;simp only at this;omega)).trans y0
    go_simp
   refine iW.cons (mX.val rfl rfl (by decide) (λgq w' hT ho hd=>?_)) ?_
   ·have e1:=ho 1 rfl;have e2:=(hT.cell (p:=⟨w.heap.size,0,none⟩) l0 (λh=>by have:=(hnb.O _ h).2;simp only at this;omega)).trans y0
    go_simp
   refine iW.cons (mX.val rfl rfl (by decide) (λgq w' hT ho hd=>?_)) ?_
   ·have e1:gq 84=.pointer (some ⟨b,0,none⟩):=hd ⟨1,.data⟩ (by simp) rfl (by decide)
    go_simp
   refine iW.cons (mX.val rfl rfl (by decide) (λgq w' hT ho hd=>?_)) ?_
   ·have e1:gq 85=.pointer (some ⟨b,0,none⟩):=hd ⟨2,.data⟩ (by simp) rfl (by decide)
    go_simp
   refine iW.cons (mX.val rfl rfl (by decide) (λgq w' hT ho hd=>?_)) ?_
   ·have e1:gq 86=.pointer (some ⟨b,0,none⟩):=hd ⟨3,.data⟩ (by simp) rfl (by decide)
    go_simp
   refine iW.cons (mX.val rfl rfl (by decide) (λgq w' hT ho hd=>?_)) ?_
   ·have e1:gq 87=.pointer (some ⟨b,2,none⟩):=hd ⟨4,.data⟩ (by simp) rfl (by decide)
    have e2:=(hT.cell (p:=⟨b,2,none⟩) lb (λh=>(hnb.O _ h).1 rfl)).trans c3
    go_simp
   refine iW.cons ⟨λgq w1 w2 h hb=>h.below hb,λhne=>absurd rfl hne,λgq gq' w1 he h=>?_,λgq w' hT hJ ho hd=>?_⟩ ?_
   ·have e61:=he 6 _ 89 (.self 6) rfl rfl;simp only[e61]at h
    exact h
   ·have e1:gq 88=.slice Ah s.aA.length ch:=hd ⟨5,.data⟩ (by simp) rfl (by decide)
    have hbel:=hJ rfl;have hcall:=Uf w' aO (.slice Ah s.aA.length ch) M 119 #[] (λx=>x.n==0) jjt (by have:=(hI'.O.below hbel).bx.own.aA;rw[hV]at this;exact this) (by have:=jix.O;omega) (λk _ V _=>jnN V _)
    unfold iT;go_simp
    refine hcall.mono ?_
    rintro e w'' ⟨v',rfl,ho',hs',_⟩;refine⟨_,rfl,?_,hs'⟩
    simpa[qI,upd]using ho'
   refine iW.cons (mX.val rfl rfl (by decide) (λgq w' hT ho hd=>?_)) ?_
   ·have e1:gq 83=.pointer (some ⟨b,0,none⟩):=hd ⟨0,.data⟩ (by simp) rfl (by decide)
    go_simp
   refine iW.cons (mX.val rfl rfl (by decide) (λgq w' hT ho hd=>?_)) ?_
   ·have e1:gq 90=.pointer (some ⟨b,0,none⟩):=hd ⟨7,.data⟩ (by simp) rfl (by decide)
    go_simp
   refine iW.cons (mX.val rfl rfl (by decide) (λgq w' hT ho hd=>?_)) ?_
   ·have e1:gq 91=.pointer (some ⟨b,0,none⟩):=hd ⟨8,.data⟩ (by simp) rfl (by decide)
    go_simp
   exact iW.nil
  case jjz=>
   obtain⟨r83,r84,r85,r86,r87,r88,E8,r90,r91,r92,_⟩:=hR;obtain⟨A9,c9,Np⟩:=E8.isSlice;rw[Np]at E8
   simp only[kG,zB,bC,bV,eG,gW,eX,fF,fB,gV,bM,dF,dL,r83,r84,r85,r86,r87,r88,Np,r90,r91,r92];clear r83 r84 r85 r86 r87 r88 r90 r91 r92 Np;have hO0:dK W aO ⟨k0,k1,.slice Ah s.aA.length ch,k3,k4,k5,k6,k7,k8⟩ (Nk s bn M):=by
    have:=hI'.O.bx.own;rw[hV]at this
    exact this
   have wC:dK w9 aO ⟨k0,k1,.slice A9 (M.filter λx=>!(x.n==0)).length c9,k3,k4,k5,k6,k7,k8⟩ {Nk s bn M with aA:=M.filter λx=>!(x.n==0)}:=hO0.Yr hT E8
   have Hq:iV w9 b 95 (SV.cells ⟨k0,k1,.slice Ah s.aA.length ch,k3,k4,k5,k6,k7,k8⟩++FH bn g ov (.map (some mb))):=by
    have:=hT.blk hI'.O.bx.box (λh=>(hnb.O _ h).1 rfl)
    rw[hV]at this
    exact this
   refine Ig rfl (.tmp 92) (.tmp 89) rfl rfl A9 (M.filter λx=>!(x.n==0)).length c9 (V:=⟨k0,k1,.slice Ah s.aA.length ch,k3,k4,k5,k6,k7,k8⟩) (cs:=FH bn g ov (.map (some mb))) (b:=b) Hq wC jfw rfl rfl rfl (λw10 Dz xu=>?_)
   refine fC ?_
   have hD9:w9.heap[D]?=some (.deferred (some [])):=hT.heap hWd (λh=>by have:=(hnb.O _ h).2;omega)
   have jjf:=xu.heap hD9 hLD;have hs10:Step (ksH b mb V) w w10:=hI'.O.st.trans ((hT.mono λj h=>.inr (.inl (by rw[hV];exact h))).trans (xu.mono λj h=>.inl h))
   obtain⟨DD,hc1,hc2⟩:=hI'.O.mp;have hmo:=JL hc2;have hc3:=AP hc2 hT (λh=>by
    obtain⟨cur,hcb⟩:=hO0.aA.block h;obtain⟨o',ho1,ho2⟩:=hmo;rw[hcb]at ho1
    injection ho1 with ho1
    subst ho1;cases ho2)
   have hc4:=AP hc3 xu (λh=>CU hc3 Hq h)
   have sK:=ah Dz;clear Dz xu wC Hq hT E8 hc2 hc3 hO0;go_wp2_with fail;have hgD:=grownBy_putObj' w10 D (.deferred none);have XV:=sK.O.wB hgD (λr e=>by cases e;exact⟨_,jjf,rfl⟩)
   refine⟨by simp,.inl ⟨_,_,rfl,run_takeDeferred jjf,?_⟩⟩
   have hkk:∀o k:Nat,bW ((yt s bn g).rest s.aA v) o k bn=bW M o k bn:=λo k=>by
    have hmk:=gX.je5 (C:=yt s bn g) xB (λ_ _=>rfl) s.aA v 0
    rw[hmid'.O]at hmk
    have hf:(λx:dZ=>!(x.n==0))=λx=>!decide (x.n=0):=funext λx=>by by_cases hx:x.n=0<;>simp[hx]
    rw[jkS.O,hf];exact jbF (by rw[hmk];exact Jc hok) o k bn
   refine⟨.tuple #[],xk rfl _ _ _,rfl,⟨k0,k1,.slice A9 (M.filter λx=>!(x.n==0)).length c9,k3,k4,k5,k6,k7,k8⟩,ov,DD,rfl,?_,?_,hc1.congr hkk,?_⟩
   ·have e:Nk s bn ((yt s bn g).rest s.aA v)={Nk s bn M with aA:=M.filter λx=>!(x.n==0)}:=by
     unfold Nk;rw[jge hkk,jkS.O]
    rw[e];exact XV
   ·rw[<- hV];refine hs10.trans' (Step.jR (ks:=λk=>some D=some k) hgD λk e=>e) λk hk e=>?_
    injection e with e
    omega
   ·refine(hc4.kept hgD (λe=>?_)).mono (by omega)
    injection e with e
    omega
end Wh
