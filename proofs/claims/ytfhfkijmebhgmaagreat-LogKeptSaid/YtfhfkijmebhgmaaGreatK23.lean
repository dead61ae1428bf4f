/- Texts of the claim, joined. -/
import Derived.Maps.OwnOps
import Derived.Maps.OwnIn
import Derived.Maps.OwnSet
import Derived.Maps.Views
import Derived.Test.YtfhfkijmebhgmaaGreatK22
set_option maxHeartbeats 20000000
set_option maxRecDepth 100000
namespace Wh
open Go Go.RowKit Go.Shelf Go.Proofs Tryz
attribute [local go_sem] aT jW jm kC
attribute [local go_sem] Oper.semAt_some
structure UH(w:World)(aO b:Nat)(rst:List Value)(V:SV)(s:aJ)(row:Option Nat)(L:List (Nat×Obj))(W:World):Prop where
 bx:Bx W aO b 95 rst V s
 held:pU L W
 st:Step (λj=>j=b\/row=some j) w W
theorem UH.own{w:World}{aO b:Nat}{rst:List Value}{V:SV}{s:aJ}{row:Option Nat}{L:List (Nat×Obj)}{B:Nat}(hL:∀x∈L,x.1<B)(hB:w.heap.size<=B){X Y:World}{rw_:Option Nat}(hs:UH w aO b rst V s row L X)
  (hg:X.grownBy Y rw_) (hr:∀r,rw_=some r->B<=r/\∃o:Obj,X.heap[r]?=some o/\o.isCells=false):UH w aO b rst V s row L Y:=
 ⟨hs.bx.wB hg λr e=>(hr r e).2,pU.from_ hL () X Y rw_ hs.held hg hr,hs.st.trans' (Step.jR (ks:=λk=>rw_=some k) hg λk e=>e) λk hk e=>by have:=(hr k e).1;omega⟩
theorem UH.below{w:World}{aO b:Nat}{rst:List Value}{V:SV}{s:aJ}{row:Option Nat}{L:List (Nat×Obj)}{W W':World}(h:UH w aO b rst V s row L W)(hb:Below W.heap.size W W'):UH w aO b rst V s row L W':=
 ⟨h.bx.below hb,λx hx=>(hb.block x.1 (h.held.lt x hx)).trans (h.held x hx),h.st.trans (.of_below hb)⟩
theorem jdJ{B:Nat}{ks:Nat->Prop}{W W':World}(h:Step ks W W')(hc:∀k,ks k->∃cs t sp,W.heap[k]?=some (.cells cs t sp)):KeepsFrom B W W':=
 ⟨h.size,λk o _ hk ho=>h.heap hk λhh=>by
  obtain⟨cs,t,sp,e⟩:=hc k hh;rw[e]at hk
  injection hk with hk
  subst hk;cases ho⟩
theorem Zh{W:World}{g:Nat}{t:TypeId}{cur:List Value}(h:iV W g t cur):∃cs t sp,W.heap[g]?=some (.cells cs t sp):=⟨_,_,_,h⟩
theorem jk3{L:List (Nat×Obj)}{W:World}{g:Nat}{t:TypeId}{cur:List Value}(h:pU L W)(hb:iV W g t cur)(ht:∀x∈L,∀cs sp,x.2≠.cells cs t sp):∀x∈L,x.1≠g:=λx hx he=>by
 have h1:=h x hx;rw[he,show W.heap[g]?=_ from hb]at h1
 injection h1 with h1
 exact ht x hx _ _ h1.symm
theorem Step.cell{ks:Nat->Prop}{w w':World}(h:Step ks w w'){p:Addr}(hb:p.block<w.heap.size)(hn:¬ks p.block):w'.cell? p=w.cell? p:=by
 unfold World.cell?;rw[h.block p.block hb hn]
theorem UH.step{w:World}{aO b:Nat}{rst jpc:List Value}{V V':SV}{s s':aJ}{row:Option Nat}{L:List (Nat×Obj)}{W W':World}(h:UH w aO b rst V s row L W)(hx:Bx W' aO b 95 jpc V' s')(hs:Step (λj=>j=b\/row=some j) W W')(hL:∀x∈L,x.1≠b/\row≠some x.1):UH w aO b jpc V' s' row L W':=
 ⟨hx,λx hx=>hs.heap (h.held x hx) λhh=>hh.elim (hL x hx).1 (hL x hx).2,h.st.trans hs⟩
theorem jmZ(W:World)(x:Move):Calls prog 117 (#[D8 x]++#[]) W λe W'=>e=.returned (.bool (x.n==0))/\Below W.heap.size W W':=by
 have hb0:Below W.heap.size W (W.alloc (.cells #[.int .i64 (x).dh,.int .i64 (x).src,.int .i64 (x).dst,.int .i64 (x).n] 48)):=(aj _ _).alloc (au _) _;change Calls prog 117 #[D8 x] W _;unfold D8;go_enter func117,ntmps117
 go_wp2_with fail;go_ret
 exact⟨rfl,hb0⟩
theorem jjs:Enters prog 117:=enters_of func117 (by kernel_rfl) rfl
theorem dK.jfI{w w':World}{aO:Nat}{V:SV}{s:aJ}(h:dK w aO V s)(hs:Step (λq=>V.aF.ownBlock=some q) w w'){v:Value}{l:List Move}(hv:Own nP 4 48 w' aO v l):dK w' aO {V with aF:=v} {s with aF:=l}:=
 ⟨h.on.step hs (sU (h.on.apart h.aF (by decide))),h.rlen,λb hb=>(h.row b hb).step hs (sU ((h.row b hb).apart h.aF (by decide))),h.ak.step hs (sU (h.ak.apart h.aF (by decide))),h.llen,λo ho=>(h.aG o ho).step hs (sU ((h.aG o ho).apart h.aF (by decide))),h.aA.step hs (sU (h.aA.apart h.aF (by decide))),hv,h.gY.step hs (sU (h.gY.apart h.aF (by decide))),h.O.step hs (sU (h.O.apart h.aF (by decide))),h.bg.step hs (sU (h.bg.apart h.aF (by decide))),h.apart,h.yS⟩
theorem jlx(w:World){aO b:Nat}{V:SV}{s:aJ}{bn g:Nat}{v:Int}{m:Value}(hB:Bx w aO b 95 (FH bn g v m) V s)(hb:aO<=b)(hm8:s.aF.length<=8)(hN:∀x∈s.aF,1<=x.n/\x.n<=200)(hv: -100000<=v/\v<=100000):
  Calls prog 63 #[.pointer (some ⟨b,0,none⟩)] w λe w'=>e=.returned (.tuple #[])/\∃V',V'={V with aF:=V'.aF}/\
   Bx w' aO b 95 (FH bn g ((Iq bn g).mid s.aF v 0).2 m) V' {s with aF:=(Iq bn g).rest s.aF v}/\Step (λj=>j=b\/V.aF.ownBlock=some j) w w':=by
 have hB':=ah hB;obtain⟨k0,k1,k2,k3,k4,k5,k6,k7,k8⟩:=V;obtain⟨Am,cm,hvm⟩:=hB.own.aF.isSlice;obtain rfl:k3=.slice Am s.aF.length cm:=hvm;obtain⟨c0,c1,c2,c3,c4,c5,c6⟩:=hB.cells;simp only at c0 c1 c2 c3 c4 c5 c6
 have hbl:=hB.lt;clear hB;refine(iQ (n:=9)).1 ?_
 refine callsIn_of_wp_marks func63 rfl trivial ?_ rfl
 simp only[ntmps63,jP,dw,dY,Nat.reduceAdd,Nat.reduceSub,jG,jF,kF,jO,iy,jK];refine xI.2 ?_
 go_wp2_with fail;refine((iQ (n:=8)).1 (jcK 8 _ _ _ _)).mono ?_
 rintro e W1 ⟨rfl,rfl⟩;go_wp2_with fail;clear c0 c1 c2 c3 c4 c5 c6;obtain⟨L,hL⟩:∃L:List (Nat×Obj),L=[(w.heap.size,Obj.cells #[.pointer (some ⟨b,0,none⟩)] 91 (0,0)),(w.heap.size+1,Obj.cells #[.slice Am s.aF.length cm] 29 (0,0))]:=⟨_,rfl⟩;have hba:Below w.heap.size w ((w.alloc (.cells #[.pointer (some ⟨b,0,none⟩)] 91)).alloc (.cells #[.slice Am s.aF.length cm] 29)):=((aj _ _).alloc (au _) _).alloc (by simp) _
 have hH0:pU L ((w.alloc (.cells #[.pointer (some ⟨b,0,none⟩)] 91)).alloc (.cells #[.slice Am s.aF.length cm] 29)):=by
  intro x hx;rw[hL]at hx
  simp at hx
  rcases hx with rfl|rfl
  ·exact(qY (by simp)).trans (og rfl)
  ·exact og (by simp)
 have hs2:((w.alloc (.cells #[.pointer (some ⟨b,0,none⟩)] 91)).alloc (.cells #[.slice Am s.aF.length cm] 29)).heap.size=w.heap.size+1+1:=by simp
 have hI0:UH w aO b (FH bn g v m) ⟨k0,k1,k2,.slice Am s.aF.length cm,k4,k5,k6,k7,k8⟩ s (Value.slice Am s.aF.length cm).ownBlock L ((w.alloc (.cells #[.pointer (some ⟨b,0,none⟩)] 91)).alloc (.cells #[.slice Am s.aF.length cm] 29)):=
  ⟨hB'.O.below hba,hH0,.of_below hba⟩
 generalize (w.alloc (.cells #[.pointer (some ⟨b,0,none⟩)] 91)).alloc (.cells #[.slice Am s.aF.length cm] 29)=w2 at hba hH0 hs2 hI0 ⊢
 have jgk:∀x∈L,x.1<w2.heap.size:=hH0.lt;have hw2:w.heap.size<=w2.heap.size:=hba.size;have wK:∀x∈s.aF,0<=(Iq bn g).num x:=λx hx=>by have:=(hN x hx).1;show 0<=x.n;omega
 refine(xI (n:=9)).1 ?_
 refine XO (s1:=2) (s2:=3) 9 (by omega) (w.heap.size+1) Am cm s.aF (by omega) rfl
  (λk W=>k<=s.aF.length/\UH w aO b (FH bn g ((Iq bn g).mid s.aF v (s.aF.length - k)).2 m) ⟨k0,k1,k2,.slice Am s.aF.length cm,k4,k5,k6,k7,k8⟩ {s with aF:=((Iq bn g).mid s.aF v (s.aF.length - k)).1} (Value.slice Am s.aF.length cm).ownBlock L W)
  (λk X Y row hs hg hr=>⟨hs.1,hs.2.own jgk hw2 hg hr⟩) ⟨aK _,by rw[Nat.sub_zero,gX.je3];exact hI0⟩ ?hR ?hsz ?A8 ?hbody ?Hl
 case hR=>
  intro k V ⟨hk,hI⟩;refine⟨Boxed.cell (show Boxed V (w.heap.size+1) 29 (.slice Am s.aF.length cm)from hI.held (w.heap.size+1,Obj.cells #[.slice Am s.aF.length cm] 29 (0,0)) (by rw[hL];simp)),λi hi=>?_⟩
  have kD:=gX.O6 (C:=Iq bn g) s.aF v (s.aF.length - k);obtain⟨gm,c',cur,e1,_,_,q0,q1,q2,q3⟩:=hI.bx.own.bH (k:=i) (by show i<(gX.mid _ _ _ _).1.length;rw[kD];omega)
  have he:bH ((Iq bn g).mid s.aF v (s.aF.length - k)).1 i=bH s.aF i:=by
   unfold bH;rw[dU,gX.ZN v (i:=i) (by omega) (by omega),dU,bf (by omega)]
  injection e1 with e1
  simp only[he]at q0 q1 q2 q3
  exact⟨gm,e1,q0,q1,q2,q3⟩
 case hsz=>
  intro k V ⟨hk,hI⟩;have:=hI.held.lt (w.heap.size+1,Obj.cells #[.slice Am s.aF.length cm] 29 (0,0)) (by rw[hL];simp)
  simp only at this
  omega
 case A8=>
  intro l x W K hK;simp only[bM,dF,dL]at hK ⊢
  unfold D8 at hK ⊢
  gi_wp2
  exact hK
 case hbody=>
  intro l k x X W hxk ⟨hk,hI⟩ hbX hX;simp only[bM,dF,dL];unfold D8;have hxl:x<s.aF.length:=by omega
  have ek:s.aF.length - k=x+1:=by omega
  have ek1:s.aF.length - (k+1)=x:=by omega
  rw[ek]at hI
  rw[ek1];have hmx:bH s.aF x=s.aF[x]:=pI hxl;have hNx:=hN _ (bU hxl);have hov:=gX.VO wK v (x+1);have FB:=λh=>gX.jhK (C:=Iq bn g) v hxl h
  have KR:=λh=>gX.je4 (C:=Iq bn g) v hxl h
  have hat:=gX.ZN (C:=Iq bn g) v (i:=x) (j:=x+1) hxl (by omega)
  have hml:=gX.O6 (C:=Iq bn g) s.aF v (x+1);obtain⟨M,ov,hmid⟩:∃M ov,(Iq bn g).mid s.aF v (x+1)=(M,ov):=⟨_,_,rfl⟩;rw[hmid]at hI hov FB KR hat hml
  simp only at hI hov FB hat hml
  have hML:bH M x=s.aF[x]:=by
   unfold bH;rw[dU,hat]
   rfl
  have hI':=ah hI;have hLx:=ah (show ∀x∈L,x.1≠b/\(Value.slice Am s.aF.length cm).ownBlock≠some x.1 from λy hy=>by
   refine⟨λhe=>?_,λhe=>?_⟩
   ·rw[hL]at hy
    simp at hy
    rcases hy with rfl|rfl<;>simp only at he<;>omega
   ·obtain⟨cur,hc⟩:=hI.bx.own.aF.block he;exact jk3 (g:=y.1) hI.held (show iV W y.1 48 cur.toList from by simpa[iV]using hc) (λz hz cs sp e=>by
     rw[hL]at hz
     simp at hz
     rcases hz with rfl|rfl<;>injection e with _ e _<;>revert e<;>decide) y hy rfl)
  clear hI hmid hat;have x0:=hbX.cell (j:=0) rfl;have x1:=hbX.cell (j:=1) rfl;have y0:W.cell? ⟨w.heap.size,0,none⟩=some (.pointer (some ⟨b,0,none⟩)):=Boxed.cell (show Boxed W w.heap.size 91 (.pointer (some ⟨b,0,none⟩))from hI'.O.held (w.heap.size,Obj.cells #[.pointer (some ⟨b,0,none⟩)] 91 (0,0)) (by rw[hL];simp))
  have z1:=hI'.O.bx.box.cell (j:=7) rfl;have z2:=hI'.O.bx.box.cell (j:=8) rfl;have l0:=hI'.O.held.lt (w.heap.size,Obj.cells #[.pointer (some ⟨b,0,none⟩)] 91 (0,0)) (by rw[hL];simp)
  simp only at l0
  have lb:b<W.heap.size:=hI'.O.bx.lt;have lX:=hbX.lt;have q1:=λo d os=>bY (w:=W) (b:=X) lX o d os
  have q2:=λo d os=>bY (w:=W) (b:=w.heap.size) l0 o d os
  have q3:=λo d os=>bY (w:=W) (b:=b) lb o d os
  have jlf:=ah hbX;clear hbX;rw[hmx]at x0 x1 ⊢
  by_cases h1:s.aF[x].src=bn
  ·have t1:(s.aF[x].src==(bn:Int))=true:=by simpa using h1
   by_cases h2:s.aF[x].dh=g
   ·have t2:(s.aF[x].dh==(g:Int))=true:=by simpa using h2
    have hst:=ah (FB (Rj.2 ⟨h1,h2⟩));clear FB KR h1 h2;gi_wp2_with fail
    refine uI (by kernel_rfl) (by kernel_rfl) (by kernel_rfl) ?_
    repeat(go_big_quiet_step (fail))
    refine wpQuiet_nil ?_
    intro W6 hw6;have hb6:=dD hw6;clear hw6;clear x0 x1 y0 z1 z2 q1 q2 q3 t1 t2;gi_wp2_with fail
    have hI6:=ah (hI'.O.below hb6);have ji4:=ah (jlf.O.below hb6 lX);obtain⟨gm,c',cur,e1,hgb,hbm,p0,p1,p2,p3⟩:=hI6.O.bx.own.bH (k:=x) (show x<M.length by omega)
    injection e1 with e1 e2 e3
    clear e2 e3;simp only[hML]at p3
    subst e1;have hgw:gm<w.heap.size:=(hB'.O.own.aF.size gm rfl).2;have hgm:gm≠b:=iV.ne hbm hI6.O.bx.box (by decide)
    obtain⟨n0,hn0⟩:∃n0,s.aF[x].n=n0:=⟨_,rfl⟩;have hst':=hst.O;change(Iq bn g).mid s.aF v x=(M.set x {s.aF[x]with n:=s.aF[x].n - gX.less ov s.aF[x].n},ov - gX.less ov s.aF[x].n)at hst'
    rw[hn0]at p3 hNx hst'
    have hst2:=ah hst';have x3:=ji4.O.cell (j:=3) rfl;rw[hmx,hn0]at x3
    clear hst hst';obtain⟨mm,hmm⟩:∃mm,gX.less ov n0=mm:=⟨_,rfl⟩;have hmb:0<=mm/\mm<=n0:=by rw[<- hmm];unfold gX.less;omega
    have hmm':=ah hmm;have l06:=aI l0 hb6.size;have lb6:=aI lb hb6.size;have lX6:=aI lX hb6.size;have y0:W6.cell? ⟨w.heap.size,0,none⟩=some (.pointer (some ⟨b,0,none⟩)):=Boxed.cell (show Boxed W6 w.heap.size 91 (.pointer (some ⟨b,0,none⟩))from hI6.O.held (w.heap.size,Obj.cells #[.pointer (some ⟨b,0,none⟩)] 91 (0,0)) (by rw[hL];simp))
    obtain⟨Vx,hVx⟩:∃Vx:SV,Vx=⟨k0,k1,k2,.slice (some ⟨gm,0,none⟩) s.aF.length cm,k4,k5,k6,k7,k8⟩:=⟨_,rfl⟩;obtain⟨sM,hsM⟩:∃sM:aJ,sM={s with aF:=M}:=⟨_,rfl⟩
    have jd9:=ah (show Bx W6 aO b 95 (FH bn g ov m) Vx sM by rw[hVx,hsM];exact hI6.O.bx)
    have hc3:∀(w':World) (o':Int),Bx w' aO b 95 (FH bn g o' m) Vx sM->w'.cell? ⟨b,3,none⟩=some (.slice (some ⟨gm,0,none⟩) s.aF.length cm):=λw' o' h=>by have:=h.cells.2.2.2.1;rw[hVx]at this;exact this
    have jtV:=ah hc3;have hxi:(x:Int)<(s.aF.length:Int):=by omega
    have hwn:IntKind.i64.wrap (n0 - mm)=n0 - mm:=aN _ (by omega)
    have jrF:=ah hVx;have jtd:=ah hsM;clear hc3 hmm hVx hsM;refine IX (by kernel_rfl) (λh=>by obtain⟨_,_,h⟩:=h;exact h) (by kernel_rfl) (jcM 16 (λw'=>Step (·=b) W6 w'/\∃o',Bx w' aO b 95 (FH bn g o' m) Vx sM) (λw'=>Bx w' aO b 95 (FH bn g ov m) Vx sM)
     (λw1 w2=>Step (·=b) w1 w2/\Bx w2 aO b 95 (FH bn g (ov - mm) m) Vx sM) 12 [
     λg' _=>g' 28=.pointer (some ⟨b,0,none⟩),λg' _=>g' 29=.pointer (some ⟨b,0,none⟩),λg' _=>g' 30=.pointer (some ⟨b,0,none⟩),λg' _=>g' 31=.pointer (some ⟨b,3,none⟩),λg' _=>g' 32=.slice (some ⟨gm,0,none⟩) s.aF.length cm,λg' _=>g' 33=.int .i64 x,λg' _=>g' 34=.pointer (some ⟨gm,x*4,none⟩),λg' _=>g' 35=.pointer (some ⟨gm,x*4+3,none⟩),λg' _=>g' 36=.int .i64 n0,λg' _=>g' 37=.pointer (some ⟨b,0,none⟩),λg' _=>g' 38=.pointer (some ⟨X,3,none⟩),λg' _=>g' 39=.int .i64 n0,λg' w'=>g' 40=.int .i64 mm/\Bx w' aO b 95 (FH bn g (ov - mm) m) Vx sM,λg' _=>g' 41=.int .i64 (n0 - mm),λg' _=>g' 42=.pointer (some ⟨gm,x*4,none⟩),λg' _=>g' 43=.pointer (some ⟨gm,x*4+3,none⟩)] (by kernel_rfl) rfl (by kernel_rfl)
     (λw1 w2 h hb=>⟨h.1.trans (.of_below hb),h.2.elim λo' h=>⟨o',h.below hb⟩⟩) (λw1 w2 h h'=>⟨h.1.trans h'.1,_,h'.2⟩) (λw1 w2 h hb=>h.below hb) ⟨.of_below (aj _ _).drew,_,jd9.O.drew⟩ jd9.O.drew ?jsn (λf w9 hT hR=>?jso))
    case jsn=>
     simp only[bC,bV];refine iW.cons (mX.val rfl rfl (by decide) (λgq w' hT ho hd=>?_)) ?_
     ·have e1:=ho 1 rfl;have e2:=(hT.1.cell (p:=⟨w.heap.size,0,none⟩) l06 (by show ¬w.heap.size=b;omega)).trans y0
      go_simp
     refine iW.cons (mX.val rfl rfl (by decide) (λgq w' hT ho hd=>?_)) ?_
     ·have e1:gq 28=.pointer (some ⟨b,0,none⟩):=hd ⟨0,.data⟩ (by simp) rfl (by decide)
      go_simp
     refine iW.cons (mX.val rfl rfl (by decide) (λgq w' hT ho hd=>?_)) ?_
     ·have e1:gq 29=.pointer (some ⟨b,0,none⟩):=hd ⟨1,.data⟩ (by simp) rfl (by decide)
      go_simp
     refine iW.cons (mX.val rfl rfl (by decide) (λgq w' hT ho hd=>?_)) ?_
     ·have e1:gq 30=.pointer (some ⟨b,0,none⟩):=hd ⟨2,.data⟩ (by simp) rfl (by decide)
      go_simp
     refine iW.cons (mX.val rfl rfl (by decide) (λgq w' hT ho hd=>?_)) ?_
     ·have e1:gq 31=.pointer (some ⟨b,3,none⟩):=hd ⟨3,.data⟩ (by simp) rfl (by decide)
      obtain⟨o',hx'⟩:=hT.2;have e2:=jtV.O w' o' hx';go_simp
     refine iW.cons (mX.val rfl rfl (by decide) (λgq w' hT ho hd=>?_)) ?_
     ·have e1:=ho 2 rfl;go_simp
     refine iW.cons (mX.val rfl rfl (by decide) (λgq w' hT ho hd=>?_)) ?_
     ·have e1:gq 32=.slice (some ⟨gm,0,none⟩) s.aF.length cm:=hd ⟨4,.data⟩ (by simp) rfl (by decide)
      have e2:gq 33=.int .i64 x:=hd ⟨5,.data⟩ (by simp) rfl (by decide)
      go_simp
     refine iW.cons (mX.val rfl rfl (by decide) (λgq w' hT ho hd=>?_)) ?_
     ·have e1:gq 34=.pointer (some ⟨gm,x*4,none⟩):=hd ⟨6,.data⟩ (by simp) rfl (by decide)
      go_simp
     refine iW.cons (mX.val rfl rfl (by decide) (λgq w' hT ho hd=>?_)) ?_
     ·have e1:gq 35=.pointer (some ⟨gm,x*4+3,none⟩):=hd ⟨7,.data⟩ (by simp) rfl (by decide)
      have e2:=(hT.1.cell (p:=⟨gm,x*4+3,none⟩) hbm.lt hgm).trans p3;go_simp
     refine iW.cons (mX.val rfl rfl (by decide) (λgq w' hT ho hd=>?_)) ?_
     ·have e1:=ho 1 rfl;have e2:=(hT.1.cell (p:=⟨w.heap.size,0,none⟩) l06 (by show ¬w.heap.size=b;omega)).trans y0
      go_simp
     refine iW.cons (mX.val rfl rfl (by decide) (λgq w' hT ho hd=>?_)) ?_
     ·have e1:=ho 3 rfl;go_simp
     refine iW.cons (mX.val rfl rfl (by decide) (λgq w' hT ho hd=>?_)) ?_
     ·have e1:gq 38=.pointer (some ⟨X,3,none⟩):=hd ⟨10,.data⟩ (by simp) rfl (by decide)
      have e2:=(hT.1.cell (p:=⟨X,3,none⟩) lX6 (by show ¬X=b;omega)).trans x3
      go_simp
     refine iW.cons ⟨λgq w1 w2 h hb=>⟨h.1,h.2.below hb⟩,λhne=>absurd rfl hne,λgq gq' w1 he h=>?_,λgq w' hT hJ ho hd=>?_⟩ ?_
     ·have e61:=he 12 _ 40 (.self 12) rfl rfl;exact⟨e61.symm.trans h.1,h.2⟩
     ·have e1:gq 37=.pointer (some ⟨b,0,none⟩):=hd ⟨9,.data⟩ (by simp) rfl (by decide)
      have e2:gq 39=.int .i64 n0:=hd ⟨11,.data⟩ (by simp) rfl (by decide)
      have hcall:=jjC w' n0 (hJ rfl) (by omega) (by omega)
      rw[hmm'.O]at hcall
      unfold iT;go_simp
      refine hcall.mono ?_
      rintro e w'' ⟨rfl,hx2,hs2⟩;refine⟨_,rfl,⟨?_,hx2⟩,hs2,hx2⟩
      simp[qI,upd]
     refine iW.cons (mX.val rfl rfl (by decide) (λgq w' hT ho hd=>?_)) ?_
     ·have e1:gq 36=.int .i64 n0:=hd ⟨8,.data⟩ (by simp) rfl (by decide)
      have e2:gq 40=.int .i64 mm:=(show gq 40=.int .i64 mm/\_ from hd ⟨12,.data⟩ (by simp) rfl (by decide)).1
      go_simp
     refine iW.cons (mX.val rfl rfl (by decide) (λgq w' hT ho hd=>?_)) ?_
     ·have e1:gq 32=.slice (some ⟨gm,0,none⟩) s.aF.length cm:=hd ⟨4,.data⟩ (by simp) rfl (by decide)
      have e2:gq 33=.int .i64 x:=hd ⟨5,.data⟩ (by simp) rfl (by decide)
      go_simp
     refine iW.cons (mX.val rfl rfl (by decide) (λgq w' hT ho hd=>?_)) ?_
     ·have e1:gq 42=.pointer (some ⟨gm,x*4,none⟩):=hd ⟨14,.data⟩ (by simp) rfl (by decide)
      go_simp
     exact iW.nil
    case jso=>
     obtain⟨r28,r29,r30,r31,r32,r33,r34,r35,r36,r37,r38,r39,⟨r40,fH⟩,r41,r42,r43,_⟩:=hR;simp only[kG,zB,bC,bV,eG,gW,eX,fF,fB,gV,bM,dF,dL,r28,r29,r30,r31,r32,r33,r34,r35,r36,r37,r38,r39,r40,r41,r42,r43];clear r28 r29 r30 r31 r32 r33 r34 r35 r36 r37 r38 r39 r40 r41 r42 r43;have jro:=hT.1.blk hbm hgm;have p39:=(hT.1.cell (p:=⟨gm,x*4+3,none⟩) hbm.lt hgm).trans p3;refine vC rfl (.tmp 43) (.tmp 41) rfl rfl gm (x*4+3) _ (n0 - mm) rfl rfl p39 (jro.frozen _) (λw10 js5=>?_)
     refine fC ?_
     have wC:dK w9 aO ⟨k0,k1,k2,.slice (some ⟨gm,0,none⟩) s.aF.length cm,k4,k5,k6,k7,k8⟩ {s with aF:=M}:=by
      have:=fH.own;rw[jrF.O,jtd.O]at this
      exact this
     obtain⟨o1,hg1⟩:=Own.store wC.aF (λ_=>rfl) (i:=x) (show x<M.length by omega) (show 3<4 by omega) (y:={s.aF[x]with n:=n0 - mm}) (u:=.int .i64 (n0 - mm)) (by
      have e:M[x]'(by omega)=s.aF[x]:=by rw[<- hML,pI (by omega)]
      show nP _=(nP (M[x]'(by omega))).set 3 _
      rw[e];rfl)
     rw[js5]at o1 hg1
     have jrl:Bx w10 aO b 95 (FH bn g (ov - mm) m) ⟨k0,k1,k2,.slice (some ⟨gm,0,none⟩) s.aF.length cm,k4,k5,k6,k7,k8⟩ {s with aF:=M.set x {s.aF[x]with n:=n0 - mm}}:=by
      have Hq:=fH.box;rw[jrF.O]at Hq
      exact⟨Hq.grown hg1 (by intro he;injection he with he;exact hgm he.symm),wC.IQ hg1 o1,fH.ty⟩
     have xu:Step (λj=>j=b\/(Value.slice (some ⟨gm,0,none⟩) s.aF.length cm).ownBlock=some j) W6 w10:=
      (hT.1.mono λj hj=>.inl hj).trans (Step.jR (ks:=λj=>j=b\/(Value.slice (some ⟨gm,0,none⟩) s.aF.length cm).ownBlock=some j) hg1 λj hj=>.inr (by rw[<- hj];rfl))
     have bK:KeepsFrom w2.heap.size W w10/\(k+1<=s.aF.length/\UH w aO b (FH bn g ((Iq bn g).mid s.aF v x).2 m) ⟨k0,k1,k2,.slice (some ⟨gm,0,none⟩) s.aF.length cm,k4,k5,k6,k7,k8⟩ {s with aF:=((Iq bn g).mid s.aF v x).1} (Value.slice (some ⟨gm,0,none⟩) s.aF.length cm).ownBlock L w10):=by
      refine⟨(Di hb6).trans ((jdJ hT.1 λj hj=>by subst hj;exact Zh jd9.O.box).trans (G7 hg1 λr e=>by injection e with e;subst e;exact Zh jro)),by omega,?_⟩
      rw[hst2.O,hmm'.O];exact hI6.O.step jrl xu hLx.O
     exact bK
   ·have t2:(s.aF[x].dh==(g:Int))=false:=by simpa using h2
    have hst:=ah (KR (by
     cases hq:(Iq bn g).is s.aF[x]
     ·rfl
     ·exact absurd (Rj.1 hq).2 h2))
    clear FB KR h1 h2;gi_wp2_with fail
    refine uI (by kernel_rfl) (by kernel_rfl) (by kernel_rfl) ?_
    repeat(go_big_quiet_step (fail))
    refine wpQuiet_nil ?_
    intro W6 hw6;have hb6:=dD hw6;clear hw6;clear x0 x1 y0 z1 z2 q1 q2 q3 t1 t2;gi_wp2_with fail
    exact⟨Di hb6,by omega,by rw[hst.O];exact hI'.O.below hb6⟩
  ·have t1:(s.aF[x].src==(bn:Int))=false:=by simpa using h1
   have hst:=ah (KR (by
     cases hq:(Iq bn g).is s.aF[x]
     ·rfl
     ·exact absurd (Rj.1 hq).1 h1))
   clear FB KR h1;gi_wp2_with fail
   refine uI (by kernel_rfl) (by kernel_rfl) (by kernel_rfl) ?_
   repeat(go_big_quiet_step (fail))
   refine wpQuiet_nil ?_
   intro W6 hw6;have hb6:=dD hw6;clear hw6;clear x0 x1 y0 z1 z2 q1 q2 q3 t1;gi_wp2_with fail
   exact⟨Di hb6,by omega,by rw[hst.O];exact hI'.O.below hb6⟩
 case Hl=>
  intro D W hD ⟨hk,hI⟩ hWd;rw[rM]at hI
  have hmv:(Iq bn g).rest s.aF v=((Iq bn g).mid s.aF v 0).1.filter λx=>!(x.n==0):=by
   rw[gX.mid_zero];unfold gX.rest;refine kX (λf=>List.filter f ((Iq bn g).cut s.aF v).1) (funext λx=>?_)
   show(!decide (x.n=0))= !(x.n==0);by_cases hx:x.n=0<;>simp[hx]
  have hml:=gX.O6 (C:=Iq bn g) s.aF v 0;obtain⟨M,ov,hmid⟩:∃M ov,(Iq bn g).mid s.aF v 0=(M,ov):=⟨_,_,rfl⟩;rw[hmid]at hI hml hmv
  simp only at hI hml hmv
  have jkS:=ah hmv;have hmid':=ah hmid;clear hmv hmid;have hI':=ah hI;have y0:W.cell? ⟨w.heap.size,0,none⟩=some (.pointer (some ⟨b,0,none⟩)):=Boxed.cell (show Boxed W w.heap.size 91 (.pointer (some ⟨b,0,none⟩))from hI.held (w.heap.size,Obj.cells #[.pointer (some ⟨b,0,none⟩)] 91 (0,0)) (by rw[hL];simp))
  have l0:=hI.held.lt (w.heap.size,Obj.cells #[.pointer (some ⟨b,0,none⟩)] 91 (0,0)) (by rw[hL];simp)
  simp only at l0
  have c3:=hI.bx.cells.2.2.2.1;simp only at c3
  have hnb:=ah (show ∀j,(Value.slice Am s.aF.length cm).ownBlock=some j->j≠b/\j<w.heap.size from λj hj=>by
   refine⟨λhe=>?_,(hB'.O.own.aF.size j hj).2⟩
   rcases hI.bx.own.aF.mQ hI.bx.box (by decide)with h|h
   ·simp only at h;rw[h]at hj;cases hj
   ·exact h (by rw[<- he];exact hj))
  have lb:b<W.heap.size:=hI.bx.lt;have hLD:D≠b:=by omega
  clear hI;gi_wp2_with fail
  have jix:=ah hml;clear hml;refine Fa 10 (λw'=>Step (λj=>(Value.slice Am s.aF.length cm).ownBlock=some j) W w') (λw'=>Below W.heap.size W w') (λw1 w2=>Step (λj=>(Value.slice Am s.aF.length cm).ownBlock=some j) w1 w2) 6 [
   λg' _=>g' 44=.pointer (some ⟨b,0,none⟩),λg' _=>g' 45=.pointer (some ⟨b,0,none⟩),λg' _=>g' 46=.pointer (some ⟨b,0,none⟩),λg' _=>g' 47=.pointer (some ⟨b,0,none⟩),λg' _=>g' 48=.pointer (some ⟨b,3,none⟩),λg' _=>g' 49=.slice Am s.aF.length cm,λg' w'=>Own nP 4 48 w' aO (g' 50) (M.filter λx=>!(x.n==0)),λg' _=>g' 51=.pointer (some ⟨b,0,none⟩),λg' _=>g' 52=.pointer (some ⟨b,0,none⟩),λg' _=>g' 53=.pointer (some ⟨b,3,none⟩)] (by kernel_rfl) (by kernel_rfl) rfl (by kernel_rfl)
   (λw1 w2 h hb=>h.trans (.of_below hb)) (λw1 w2 h h'=>h.trans h') (λw1 w2 h hb=>h.trans (hb.mono h.size)) (.of_below (aj _ _).drew) (aj _ _).drew ?jjy (λf w9 hT hR=>?jjz)
  case jjy=>
   simp only[bC,bV];refine iW.cons (mX.val rfl rfl (by decide) (λgq w' hT ho hd=>?_)) ?_
   ·have e1:=ho 1 rfl;have e2:=(hT.cell (p:=⟨w.heap.size,0,none⟩) l0 (λh=>by have:=(hnb.O _ h).2;simp only at this;omega)).trans y0
    go_simp
   refine iW.cons (mX.val rfl rfl (by decide) (λgq w' hT ho hd=>?_)) ?_
   ·have e1:=ho 1 rfl;have e2:=(hT.cell (p:=⟨w.heap.size,0,none⟩) l0 (λh=>by have:=(hnb.O _ h).2;simp only at this;omega)).trans y0
    go_simp
   refine iW.cons (mX.val rfl rfl (by decide) (λgq w' hT ho hd=>?_)) ?_
   ·have e1:gq 45=.pointer (some ⟨b,0,none⟩):=hd ⟨1,.data⟩ (by simp) rfl (by decide)
    go_simp
   refine iW.cons (mX.val rfl rfl (by decide) (λgq w' hT ho hd=>?_)) ?_
   ·have e1:gq 46=.pointer (some ⟨b,0,none⟩):=hd ⟨2,.data⟩ (by simp) rfl (by decide)
    go_simp
   refine iW.cons (mX.val rfl rfl (by decide) (λgq w' hT ho hd=>?_)) ?_
   ·have e1:gq 47=.pointer (some ⟨b,0,none⟩):=hd ⟨3,.data⟩ (by simp) rfl (by decide)
    go_simp
   refine iW.cons (mX.val rfl rfl (by decide) (λgq w' hT ho hd=>?_)) ?_
   ·have e1:gq 48=.pointer (some ⟨b,3,none⟩):=hd ⟨4,.data⟩ (by simp) rfl (by decide)
    have e2:=(hT.cell (p:=⟨b,3,none⟩) lb (λh=>(hnb.O _ h).1 rfl)).trans c3
    go_simp
   refine iW.cons ⟨λgq w1 w2 h hb=>h.below hb,λhne=>absurd rfl hne,λgq gq' w1 he h=>?_,λgq w' hT hJ ho hd=>?_⟩ ?_
   ·have e61:=he 6 _ 50 (.self 6) rfl rfl;simp only[e61]at h
    exact h
   ·have e1:gq 49=.slice Am s.aF.length cm:=hd ⟨5,.data⟩ (by simp) rfl (by decide)
    have hbel:=hJ rfl;have hcall:=jct w' aO (.slice Am s.aF.length cm) M 117 #[] (λx=>x.n==0) jjs (hI'.O.below hbel).bx.own.aF (by have:=jix.O;omega) (λk _ V _=>jmZ V _)
    unfold iT;go_simp
    refine hcall.mono ?_
    rintro e w'' ⟨v',rfl,ho',hs',_⟩;refine⟨_,rfl,?_,hs'⟩
    simpa[qI,upd]using ho'
   refine iW.cons (mX.val rfl rfl (by decide) (λgq w' hT ho hd=>?_)) ?_
   ·have e1:gq 44=.pointer (some ⟨b,0,none⟩):=hd ⟨0,.data⟩ (by simp) rfl (by decide)
    go_simp
   refine iW.cons (mX.val rfl rfl (by decide) (λgq w' hT ho hd=>?_)) ?_
   ·have e1:gq 51=.pointer (some ⟨b,0,none⟩):=hd ⟨7,.data⟩ (by simp) rfl (by decide)
    go_simp
   refine iW.cons (mX.val rfl rfl (by decide) (λgq w' hT ho hd=>?_)) ?_
   ·have e1:gq 52=.pointer (some ⟨b,0,none⟩):=hd ⟨8,.data⟩ (by simp) rfl (by decide)
    go_simp
   exact iW.nil
  case jjz=>
   obtain⟨r44,r45,r46,r47,r48,r49,E8,r51,r52,r53,_⟩:=hR;obtain⟨A9,c9,Np⟩:=E8.isSlice;rw[Np]at E8
   simp only[kG,zB,bC,bV,eG,gW,eX,fF,fB,gV,bM,dF,dL,r44,r45,r46,r47,r48,r49,Np,r51,r52,r53];clear r44 r45 r46 r47 r48 r49 r51 r52 r53 Np;have wC:dK w9 aO ⟨k0,k1,k2,.slice A9 (M.filter λx=>!(x.n==0)).length c9,k4,k5,k6,k7,k8⟩ {s with aF:=M.filter λx=>!(x.n==0)}:=hI'.O.bx.own.jfI hT E8
   have Hq:iV w9 b 95 (SV.cells ⟨k0,k1,k2,.slice Am s.aF.length cm,k4,k5,k6,k7,k8⟩++FH bn g ov m):=hT.blk hI'.O.bx.box (λh=>(hnb.O _ h).1 rfl)
   refine LH rfl (.tmp 53) (.tmp 50) rfl rfl A9 (M.filter λx=>!(x.n==0)).length c9 (V:=⟨k0,k1,k2,.slice Am s.aF.length cm,k4,k5,k6,k7,k8⟩) (cs:=FH bn g ov m) (b:=b) Hq wC jfw rfl rfl rfl (λw10 Dz xu=>?_)
   refine fC ?_
   have hD9:w9.heap[D]?=some (.deferred (some [])):=hT.heap hWd (λh=>by have:=(hnb.O _ h).2;omega)
   have jjf:=xu.heap hD9 hLD;have hs10:Step (λj=>j=b\/(Value.slice Am s.aF.length cm).ownBlock=some j) w w10:=hI'.O.st.trans ((hT.mono λj h=>.inr h).trans (xu.mono λj h=>.inl h))
   have sK:=ah Dz;clear Dz xu wC Hq hT E8;go_wp2_with fail;have hgD:=grownBy_putObj' w10 D (.deferred none);have XV:=sK.O.wB hgD (λr e=>by cases e;exact⟨_,jjf,rfl⟩)
   refine⟨by simp,.inl ⟨_,_,rfl,run_takeDeferred jjf,?_⟩⟩
   refine⟨.tuple #[],xk rfl _ _ _,rfl,⟨k0,k1,k2,.slice A9 (M.filter λx=>!(x.n==0)).length c9,k4,k5,k6,k7,k8⟩,rfl,?_,hs10.trans' (Step.jR (ks:=λk=>some D=some k) hgD λk e=>e) λk hk e=>?_⟩
   ·rw[hmid'.O,jkS.O];exact XV
   ·injection e with e
    omega
end Wh
namespace Wh
open Go Go.RowKit Go.Shelf Go.Proofs Go.Maps Tryz
abbrev L6(x:Int):Lit:=.int .i64 x
theorem jfa(x:Int):WideAt.IsKeyLit (L6 x):=trivial
structure vW(s:aJ)(b g:Nat)(l:List dZ)(j:Nat)(D:DataW Unit):Prop where
 map:IsMap D
 keys:∀x:Int,has D (L6 x)=true↔∃i,∃hi:i<s.aA.length,j<=i/\(yt s b g).is s.aA[i]=true/\x=s.aA[i].aC*3+s.aA[i].aG
 vals:∀o k:Nat,k<3->has D (L6 ((o:Int)*3+k))=true->∀z,D.atKey (L6 ((o:Int)*3+k)) z=.lit (.int .i64 (bW s.aA o k b - bW l o k b))
section
variable {s:aJ} {b g:Nat} {l:List dZ} {j:Nat} {D:DataW Unit}
theorem vW.start:vW s b g s.aA s.aA.length (.map []):=by
 refine⟨⟨_,rfl⟩,λx=>⟨λh=>(by cases h),?_⟩,λo k _ h=>(by cases h)⟩
 rintro⟨i,hi,hj,_⟩;omega
theorem vW.congr{l':List dZ}(h:vW s b g l j D)(he:∀o k:Nat,bW l' o k b=bW l o k b):vW s b g l' j D:=⟨h.map,h.keys,λo k hk hh z=>by rw[h.vals o k hk hh z,he]⟩
theorem vW.skip(h:vW s b g l (j+1) D)(hj:j<s.aA.length)(hn:(yt s b g).is s.aA[j]=false):vW s b g l j D:=by
 refine⟨h.map,λx=>(h.keys x).trans ⟨?_,?_⟩,h.vals⟩
 ·rintro⟨i,hi,h1,h2,h3⟩;exact⟨i,hi,by omega,h2,h3⟩
 ·rintro⟨i,hi,h1,h2,h3⟩;refine⟨i,hi,?_,h2,h3⟩
  rcases rO j i with h4|h4
  ·omega
  ·obtain rfl:j=i:=by omega
   rw[hn]at h2
   cases h2
theorem vW.fresh(h:vW s b g l (j+1) D)(hok:iD s.aA=true)(hj:j<s.aA.length)(hi:(yt s b g).is s.aA[j]=true):has D (L6 (s.aA[j].aC*3+s.aA[j].aG))=false:=by
 cases hh:has D (L6 (s.aA[j].aC*3+s.aA[j].aG))
 ·rfl
 ·obtain⟨i,hil,h1,h2,h3⟩:=(h.keys _).1 hh;have hf:=(gG.1 hok).1;have f1:=(nI.1 (hf _ (bU hj))).1;have f2:=(nI.1 (hf _ (bU hil))).1;unfold sD at f1 f2
  have b1:=(ES.1 hi).1;have b2:=(ES.1 h2).1;have hnd:=Jc hok;have he:xB s.aA[i]=xB s.aA[j]:=by
   unfold xB;simp only[sQ];omega
  have:=(List.getElem_inj (xs:=s.aA.map xB) (i:=i) (j:=j) (h₀:=by simpa using hil) (h₁:=by simpa using hj) hnd).1 (by simpa using he)
  omega
theorem vW.put{o k:Nat}{m:Int}(h:vW s b g l (j+1) D)(hok:iD s.aA=true)(hj:j<s.aA.length)(hi:(yt s b g).is s.aA[j]=true)(ho:s.aA[j].aC=o)(hk:s.aA[j].aG=k)(hk3:k<3)
  (hlk:l.map xB=s.aA.map xB) (hlj:j<l.length) (hl:l[j]=s.aA[j]):vW s b g (l.set j {s.aA[j]with n:=s.aA[j].n - m}) j (D.put (L6 ((o:Int)*3+k)) (.lit (.int .i64 m))):=by
 have hb:=(ES.1 hi).1;have hnd:=Jc hok;have hnl:(l.map xB).Nodup:=by rw[hlk];exact hnd
 have hka:=Dy hnd hj;rw[ho,hk,hb]at hka
 have hset:∀o' k':Nat,bW (l.set j {s.aA[j]with n:=s.aA[j].n - m}) o' k' b=if o'=o/\k'=k then s.aA[j].n - m else bW l o' k' b:=λo' k'=>by
  have:=VY hnl hlj (s.aA[j].n - m) o' k' b;rw[hl]at this
  rw[this,ho,hk,hb];by_cases hh:o'=o/\k'=k
  ·rw[aB hh,aB ⟨by omega,by omega,rfl⟩]
  ·rw[ay hh,ay (λh2=>hh ⟨by omega,by omega⟩)]
 have hne:∀x:Int,x≠(o:Int)*3+k->L6 x≠L6 ((o:Int)*3+k):=λx hx he=>by
  injection he with _ he
  exact hx he
 refine⟨IsMap.put h.map _ _,λx=>?_,λo' k' hk' hh z=>?_⟩
 ·by_cases hx:x=(o:Int)*3+k
  ·subst hx;rw[has_put_same h.map (jfa _)];exact⟨λ_=>⟨j,hj,au _,hi,by rw[ho,hk]⟩,λ_=>rfl⟩
  ·rw[has_put_other (hne x hx),h.keys x];constructor
   ·rintro⟨i,hil,h1,h2,h3⟩;exact⟨i,hil,by omega,h2,h3⟩
   ·rintro⟨i,hil,h1,h2,h3⟩;refine⟨i,hil,?_,h2,h3⟩
    rcases rO j i with h4|h4
    ·omega
    ·obtain rfl:j=i:=by omega
     rw[ho,hk]at h3
     exact absurd h3 hx
 ·by_cases hx:(o':Int)*3+k'=(o:Int)*3+k
  ·obtain rfl:o'=o:=by omega
   obtain rfl:k'=k:=by omega
   rw[atKey_put_same h.map (jfa _),hset,aB ⟨rfl,rfl⟩,hka];congr 3
   omega
  ·rw[has_put_other (hne _ hx)]at hh
   rw[atKey_put_other (hne _ hx),h.vals o' k' hk' hh,hset,ay (λh2=>hx (by rw[h2.1,h2.2]))]
end
def ksH(b mb:Nat)(V:SV)(j:Nat):Prop:=j=b\/V.aA.ownBlock=some j\/j=mb\/∃o,o<V.aH.length/\(V.aG o).ownBlock=some j
structure UG(w:World)(aO b mb:Nat)(V:SV)(s:aJ)(bn g:Nat)(ov:Int)(l:List dZ)(j:Nat)(L:List (Nat×Obj))(W:World):Prop where
 bx:Bx W aO b 95 (FH bn g ov (.map (some mb))) V (Nk s bn l)
 held:pU L W
 st:Step (ksH b mb V) w W
 mp:∃D,vW s bn g l j D/\W.ownsMap prog 3 (plainElem prog 3) mb (s.aA.length - j) D
section
variable {w W W':World} {aO b mb bn g j:Nat} {V:SV} {s:aJ} {ov:Int} {l:List dZ} {L:List (Nat×Obj)}
theorem UG.own{B:Nat}(hL:∀x∈L,x.1<B)(hB:w.heap.size<=B)(hmb:mb<w.heap.size){rw_:Option Nat}(hs:UG w aO b mb V s bn g ov l j L W)
  (hg:W.grownBy W' rw_) (hr:∀r,rw_=some r->B<=r/\∃o:Obj,W.heap[r]?=some o/\o.isCells=false):UG w aO b mb V s bn g ov l j L W':=
 ⟨hs.bx.wB hg λr e=>(hr r e).2,pU.from_ hL () W W' rw_ hs.held hg hr,hs.st.trans' (Step.jR (ks:=λk=>rw_=some k) hg λk e=>e) λk hk e=>by have:=(hr k e).1;omega,hs.mp.elim λD h=>⟨D,h.1,h.2.kept hg λhe=>by have:=(hr mb he.symm).1;omega⟩⟩
theorem UG.below(h:UG w aO b mb V s bn g ov l j L W)(hb:Below W.heap.size W W'):UG w aO b mb V s bn g ov l j L W':=
 ⟨h.bx.below hb,λx hx=>(hb.block x.1 (h.held.lt x hx)).trans (h.held x hx),h.st.trans (.of_below hb),h.mp.elim λD h=>⟨D,h.1,h.2.kept (nV (row:=none) hb) (by simp)⟩⟩
theorem UG.skip(h:UG w aO b mb V s bn g ov l (j+1) L W)(hj:j<s.aA.length)(hn:(yt s bn g).is s.aA[j]=false):UG w aO b mb V s bn g ov l j L W:=
 ⟨h.bx,h.held,h.st,h.mp.elim λD h=>⟨D,h.1.skip hj hn,h.2.mono (by omega)⟩⟩
end
theorem AP{ks:Nat->Prop}{w w':World}{k:TypeId}{R:Value->Option (DataW Unit×List MemPlace)}{mb n:Nat}{D:DataW Unit}(h:w.ownsMap prog k R mb n D)(hs:Step ks w w')(hn:¬ks mb):w'.ownsMap prog k R mb n D:=by
 obtain⟨es,clock,hb,F,h1,h2⟩:=h;exact⟨es,clock,hs.heap hb hn,F,h1,h2⟩
theorem CU{w:World}{k:TypeId}{R:Value->Option (DataW Unit×List MemPlace)}{mb n g:Nat}{D:DataW Unit}{t:TypeId}{cur:List Value}(h:w.ownsMap prog k R mb n D)(hb:iV w g t cur):mb≠g:=λhe=>by
 obtain⟨es,clock,h1,_⟩:=h;rw[he,show w.heap[g]?=_ from hb]at h1
 injection h1 with h1
 cases h1
theorem JL{w:World}{k:TypeId}{R:Value->Option (DataW Unit×List MemPlace)}{mb n:Nat}{D:DataW Unit}(h:w.ownsMap prog k R mb n D):∃o:Obj,w.heap[mb]?=some o/\o.isCells=false:=by
 obtain⟨es,clock,h1,_⟩:=h;exact⟨_,h1,rfl⟩
theorem XR{B:Nat}{ks:Nat->Prop}{W W':World}(h:Step ks W W')(hk:∀j,ks j->j<B):KeepsFrom B W W':=⟨h.size,λk o hB hh _=>h.heap hh λhj=>by have:=hk k hj;omega⟩
theorem ZQ:Keyed prog 3:=int_keyed underlying3
theorem jeJ(w:World):(zeroValue 3).run prog w=.ok (.int .i64 0) w:=by kernel_rfl
theorem jhR{x:Int}(h: -9223372036854775808<=x/\x<=9223372036854775807):keyOf prog 3 (.int .i64 x)=some (L6 x):=keyOf_int_mk underlying3 (WalkArith.wf_i64 h)
end Wh
