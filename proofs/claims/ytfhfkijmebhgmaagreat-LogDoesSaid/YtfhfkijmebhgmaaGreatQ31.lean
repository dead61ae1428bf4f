/- Texts of the claim, joined. -/
import Derived.BigRegion
import Derived.Shelf.SlIterI.Keys
import Derived.Shelf.SlIterI.Sorted
import Derived.Shelf.SortM.Plain
import Derived.Shelf.SortM.SortNone
import Derived.Ground.GgzProg
import Derived.Ground.SlgmProg
import Derived.Test.YtfhfkijmebhgmaaGreatQ30
set_option maxHeartbeats 20000000
set_option maxRecDepth 100000
namespace Wh
open Go Go.RowKit Go.Shelf Go.Proofs Go.Maps Tryz
attribute [local go_sem] au dQ dI dX
attribute [local go_sem] Oper.semAt_some
theorem jk5 (W:World) (x:Hold):Calls prog 119 (#[kG x]++#[]) W fun e W'=>e=.returned (.bool (x.n==0))∧Below W.heap.size W W':=by
 have hb0:Below W.heap.size W (W.alloc (.cells #[.int .i64 (x).order,.int .i64 (x).line,.int .i64 (x).bin,.int .i64 (x).n] 46)):=(aj _ _).alloc (aA _) _;change Calls prog 119 #[kG x] W _;unfold kG;go_enter func119,ntmps119
 go_wp2_with fail;go_ret
 exact ⟨rfl,hb0⟩
theorem jgX:Enters prog 119:=enters_of func119 (by kernel_rfl) rfl
theorem BG {l₀ n0:Nat} {ops:Array Oper} {rest:List Oper} {o:Oper} {a:Act} {w:World} {Q:Exit→Act→World→Prop} (hgd:o.guard=none) (x y:Operand) (ho:o.op=.store 3 x y) (hn:o.dst=none) (b off:Nat) (u:Value) (q:Int)
  (hx:a.eval x=.pointer (some ⟨b,off,none⟩)) (hy:a.eval y=.int .i64 q) (hc:w.cell? ⟨b,off,none⟩=some u) (hf:w.frozen? ⟨b,off,none⟩=false)
  (h:∀ w',w.setCell ⟨b,off,none⟩ (.int .i64 q)=w'→wpListIn (Fence.wide.inRound l₀) n0 prog ops Q rest a w'):wpListIn (Fence.wide.inRound l₀) n0 prog ops Q (o::rest) a w:=
 wpListIn_plain hgd fun K hK=>by
  have h3:=h _ rfl;clear h;unfold Oper.wpIn;refine ⟨fun _ _=>bP,?_⟩
  rw [Oper.semAt_plain _ _ _ (fun c=>by rw [ho];intro e;cases e)]
  simp only [execOp,ho,hx,hy];go_simp
  rw [hn] at*
  exact hK _ _ h3
def jec (base b mb:Nat) (V:SV) (s:State) (bn g:Nat) (v:Int) (w w':World):Prop:=∃ (V':SV) (ov:Int) (D:DataW Unit),V'={V with holds:=V'.holds}∧
 Bx w' base b 95 (xu bn g ov (.map (some mb))) V' (Gg s bn ((oz s bn g).rest s.holds v))∧Step (ksH b mb V) w w'∧lS s bn g ((oz s bn g).rest s.holds v) 0 D∧w'.ownsMap prog 3 (plainElem prog 3) mb s.holds.length D
theorem jiX (w:World) {base b mb:Nat} {V:SV} {s:State} {bn g:Nat} {v:Int} (hB:Bx w base b 95 (xu bn g v (.map (some mb))) V s) (hb:base≤b) (hmb:mb<w.heap.size) (hmbb:base≤mb) (hmap:w.ownsMap prog 3 (plainElem (H:=Unit) prog 3) mb 0 (.map []))
  (hok:bQ s.holds=true) (hv: -100000≤v∧v≤100000) (hin:∀ i (hi:i<s.holds.length),∃ o k:Nat,s.holds[i].order=o∧s.holds[i].line=k∧o<s.orders.length∧k<(s.order o).lines.length)
  (hbk:∀ o k:Nat,o<s.orders.length→k<(s.order o).lines.length→0≤(s.line o k).back∧(s.line o k).back≤200):
  Calls prog 64 #[.pointer (some ⟨b,0,none⟩)] w fun e w'=>e=.returned (.tuple #[])∧jec base b mb V s bn g v w w':=by
 have hB':=Lib.hid hB;have hB0:=hB;obtain ⟨k0,k1,k2,k3,k4,k5,k6,k7,k8⟩:=V;obtain ⟨Ah,ch,hvh⟩:=hB.own.holds.isSlice;obtain rfl:k2=.slice Ah s.holds.length ch:=hvh;obtain ⟨c0,c1,c2,c3,c4,c5,c6⟩:=hB.cells;simp only at c0 c1 c2 c3 c4 c5 c6
 have hbl:=hB.lt;have h72:=jJ hok;clear hB hB0;refine (kD (n:=9)).1 ?_
 refine callsIn_of_wp_marks func64 rfl bP ?_ rfl
 simp only [ntmps64,qN,gQ,je,Nat.reduceAdd,Nat.reduceSub,rW,rV,rM,rQ,lq,qg];refine D7.2 ?_
 go_wp2_with fail;refine ((kD (n:=8)).1 (jab 8 _ _ _ _)).mono ?_
 rintro e W1 ⟨rfl,rfl⟩;go_wp2_with fail;clear c0 c1 c2 c3 c4 c5 c6;obtain ⟨V,hV⟩:∃ V:SV,V=⟨k0,k1,.slice Ah s.holds.length ch,k3,k4,k5,k6,k7,k8⟩:=⟨_,rfl⟩;obtain ⟨L,hL⟩:∃ L:List (Nat×Obj),L=[(w.heap.size,Obj.cells #[.pointer (some ⟨b,0,none⟩)] 91 (0,0)),(w.heap.size+1,Obj.cells #[.slice Ah s.holds.length ch] 28 (0,0))]:=⟨_,rfl⟩;have hba:Below w.heap.size w ((w.alloc (.cells #[.pointer (some ⟨b,0,none⟩)] 91)).alloc (.cells #[.slice Ah s.holds.length ch] 28)):=((aj _ _).alloc (aA _) _).alloc (by simp) _
 have hH0:iR L ((w.alloc (.cells #[.pointer (some ⟨b,0,none⟩)] 91)).alloc (.cells #[.slice Ah s.holds.length ch] 28)):=by
  intro x hx;rw [hL] at hx
  simp at hx
  rcases hx with rfl|rfl
  ·exact (heap_alloc_old (by simp)).trans (iq rfl)
  ·exact iq (by simp)
 have hs2:((w.alloc (.cells #[.pointer (some ⟨b,0,none⟩)] 91)).alloc (.cells #[.slice Ah s.holds.length ch] 28)).heap.size=w.heap.size+1+1:=by simp
 have hI0:OU w base b mb V s bn g v s.holds s.holds.length L ((w.alloc (.cells #[.pointer (some ⟨b,0,none⟩)] 91)).alloc (.cells #[.slice Ah s.holds.length ch] 28)):=
  ⟨by rw [jf9,hV];exact hB'.out.below hba,hH0,.of_below hba,_,lS.start,by rw [AY];exact hmap.kept (gZ (row:=none) hba) (by simp)⟩
 generalize (w.alloc (.cells #[.pointer (some ⟨b,0,none⟩)] 91)).alloc (.cells #[.slice Ah s.holds.length ch] 28)=w2 at hba hH0 hs2 hI0 ⊢
 have jdP:∀ x∈L,x.1<w2.heap.size:=hH0.lt;have hw2:w.heap.size≤w2.heap.size:=hba.size;have hpos:∀ x∈s.holds,0≤(oz s bn g).num x:=fun x hx=>by have:=(gG.1 ((bC.1 hok).1 x hx)).2.1;show 0≤x.n;omega
 have hks:=Lib.hid (show ∀ j,ksH b mb V j→j<w.heap.size from fun j hj=>by
  rcases hj with rfl|h|rfl|⟨o,ho,h⟩
  ·exact hbl
  ·rw [hV] at h
   exact (hB'.out.own.holds.size j h).2
  ·exact hmb
  ·rw [hV] at h ho
   exact ((hB'.out.own.line o (by rw [← hB'.out.own.llen];exact ho)).size j h).2)
 refine (D7 (n:=9)).1 ?_
 refine TI (s1:=2) (s2:=3) 9 (by omega) (w.heap.size+1) Ah ch s.holds (by omega) rfl
  (fun k W=>k≤s.holds.length∧OU w base b mb V s bn g ((oz s bn g).mid s.holds v (s.holds.length - k)).2 ((oz s bn g).mid s.holds v (s.holds.length - k)).1 (s.holds.length - k) L W)
  (fun k X Y row hs hg hr=>⟨hs.1,hs.2.own jdP hw2 hmb hg hr⟩) ⟨aT _,by rw [Nat.sub_zero,bI.jcz];exact hI0⟩ ?hR ?hsz ?hassign ?hbody ?hdone
 case hR=>
  intro k W ⟨hk,hI⟩;refine ⟨Boxed.cell (show Boxed W (w.heap.size+1) 28 (.slice Ah s.holds.length ch) from hI.held (w.heap.size+1,Obj.cells #[.slice Ah s.holds.length ch] 28 (0,0)) (by rw [hL];simp)),fun i hi=>?_⟩
  have hlen:=bI.Jc (C:=oz s bn g) s.holds v (s.holds.length - k);obtain ⟨gm,c',cur,e1,_,_,q0,q1,q2,q3⟩:=hI.bx.own.oP (k:=i) (by show i<(bI.mid _ _ _ _).1.length;rw [hlen];omega)
  have he:hold ((oz s bn g).mid s.holds v (s.holds.length - k)).1 i=hold s.holds i:=by
   unfold hold;rw [jm,bI.Wi v (i:=i) (by omega) (by omega),jm,fF (by omega)]
  rw [hV] at e1
  injection e1 with e1
  change W.cell? _=some (.int .i64 (hold ((oz s bn g).mid s.holds v (s.holds.length - k)).1 i).order) at q0
  change W.cell? _=some (.int .i64 (hold ((oz s bn g).mid s.holds v (s.holds.length - k)).1 i).line) at q1
  change W.cell? _=some (.int .i64 (hold ((oz s bn g).mid s.holds v (s.holds.length - k)).1 i).bin) at q2
  change W.cell? _=some (.int .i64 (hold ((oz s bn g).mid s.holds v (s.holds.length - k)).1 i).n) at q3
  rw [he] at q0 q1 q2 q3
  exact ⟨gm,e1,q0,q1,q2,q3⟩
 case hsz=>
  intro k W ⟨hk,hI⟩;have:=hI.held.lt (w.heap.size+1,Obj.cells #[.slice Ah s.holds.length ch] 28 (0,0)) (by rw [hL];simp)
  simp only at this
  omega
 case hassign=>
  intro l x W K hK;simp only [iW,iy,iJ] at hK ⊢
  unfold kG at hK ⊢
  gi_wp2
  exact hK
 case hbody=>
  intro l k x X W hxk ⟨hk,hI⟩ hbX hX;simp only [iW,iy,iJ];unfold kG;have hxl:x<s.holds.length:=by omega
  have ek:s.holds.length - k=x+1:=by omega
  have ek1:s.holds.length - (k+1)=x:=by omega
  rw [ek] at hI
  rw [ek1];have hmx:hold s.holds x=s.holds[x]:=by unfold hold;simp [hxl]
  have hfx:=(gG.1 ((bC.1 hok).1 _ (eF hxl)));have hNx:=hfx.2;have hkx:=hfx.1;unfold jL at hkx
  obtain ⟨o,kk,hox,hlx,ho,hkk⟩:=hin x hxl;have hokk:o≤3∧kk≤2:=by omega
  have hov:=bI.QK hpos v (x+1);have hstep:=fun h=>bI.jfa (C:=oz s bn g) v hxl h
  have EG:=fun h=>bI.jcA (C:=oz s bn g) v hxl h
  have hat:=bI.Wi (C:=oz s bn g) v (i:=x) (j:=x+1) hxl (by omega)
  have hml:=bI.Jc (C:=oz s bn g) s.holds v (x+1);have hmk:=bI.jcB (C:=oz s bn g) hkey (fun _ _=>rfl) s.holds v (x+1)
  obtain ⟨M,ov,hmid⟩:∃ M ov,(oz s bn g).mid s.holds v (x+1)=(M,ov):=⟨_,_,rfl⟩;rw [hmid] at hI hov hstep EG hat hml hmk
  simp only at hI hov hstep hat hml hmk
  have hMx:x<M.length:=by omega
  have hML:M[x]=s.holds[x]:=by
   rw [fF hMx] at hat
   exact gB hat
  have hI':=Lib.hid hI;clear hmid hat hI;have x0:=hbX.cell (j:=0) rfl;have x1:=hbX.cell (j:=1) rfl;have x2:=hbX.cell (j:=2) rfl;rw [hmx] at x0 x1 x2 ⊢
  rw [hox] at x0
  rw [hlx] at x1
  have y0:W.cell? ⟨w.heap.size,0,none⟩=some (.pointer (some ⟨b,0,none⟩)):=Boxed.cell (show Boxed W w.heap.size 91 (.pointer (some ⟨b,0,none⟩)) from hI'.out.held (w.heap.size,Obj.cells #[.pointer (some ⟨b,0,none⟩)] 91 (0,0)) (by rw [hL];simp))
  have z1:=hI'.out.bx.box.cell (j:=7) rfl;have z2:=hI'.out.bx.box.cell (j:=8) rfl;have l0:=hI'.out.held.lt (w.heap.size,Obj.cells #[.pointer (some ⟨b,0,none⟩)] 91 (0,0)) (by rw [hL];simp)
  simp only at l0
  have lb:b<W.heap.size:=hI'.out.bx.lt;have lX:=hbX.lt;have ho':o<(Gg s bn M).orders.length:=by show o<(hdO s bn M).length;rw [MI];exact ho
  have hkk':kk<((Gg s bn M).order o).lines.length:=by rw [Ny ho];exact hkk
  obtain ⟨go,co,jg5,eo,hgo,Ib,oc0,oc1⟩:=hI'.out.bx.own.ay ho';obtain ⟨gl,cl,curl,el,hgl,jgr,lc0,lc1,lc2,lc3⟩:=hI'.out.bx.own.bH ho' hkk';have hlo:(Gg s bn M).orders.length=s.orders.length:=MI;have hll:((Gg s bn M).order o).lines.length=(s.order o).lines.length:=Ny ho;have hln:=Zf (b:=(bn:Int)) (l:=M) ho hkk;rw [hlo] at eo
  rw [hll] at el
  rw [hln] at lc0 lc3
  simp only at lc0 lc3
  rw [el] at oc1
  have z0:=hI'.out.bx.cells.2.1;rw [eo] at z0
  have hoi:(o:Int)<(s.orders.length:Int):=by omega
  have hki:(kk:Int)<((s.order o).lines.length:Int):=by omega
  have jn4:=Ib.lt;have jf5:=jgr.lt;have joa:=Lib.hid el;have jf0:=Lib.hid hln;have hlc3:=Lib.hid lc3;have hmk':=Lib.hid hmk;have hml':=Lib.hid hml;have Zt:=Lib.hid hML;have jbm:=Lib.hid hox;have jbr:=Lib.hid hlx;clear hlo hll hln eo el lc1 lc2 lc3 oc0 hmk hml hML hox hlx ho' hkk';have q1:=fun o d os=>aG (w:=W) (b:=X) lX o d os
  have q2:=fun o d os=>aG (w:=W) (b:=w.heap.size) l0 o d os
  have q3:=fun o d os=>aG (w:=W) (b:=b) lb o d os
  have q4:=fun o d os=>aG (w:=W) (b:=go) jn4 o d os
  have q5:=fun o d os=>aG (w:=W) (b:=gl) jf5 o d os
  have jiC:=Lib.hid hbX;clear hbX;gi_wp2_with fail
  refine kU (by kernel_rfl) (by kernel_rfl) (by kernel_rfl) ?_
  repeat (go_big_quiet_step (fail))
  refine wpQuiet_nil ?_
  intro W5 hw5;have hb5:=aI hw5;clear hw5;clear q1 q2 q3 q4 q5 oc1 z0;have hI5:=Lib.hid (hI'.out.below hb5);have jot:=Lib.hid (jiC.out.below hb5 lX);have l05:=aZ l0 hb5.size;have lb5:=aZ lb hb5.size;have lX5:=aZ lX hb5.size;have jn7:=aZ jf5 hb5.size;have x2:=(hb5.cell (p:=⟨X,2,none⟩) lX).trans x2;have y0:=(hb5.cell (p:=⟨w.heap.size,0,none⟩) l0).trans y0;have z1:=(hb5.cell (p:=⟨b,7,none⟩) lb).trans z1;have z2:=(hb5.cell (p:=⟨b,8,none⟩) lb).trans z2;have lc0:=(hb5.cell (p:=⟨gl,kk*4,none⟩) jf5).trans lc0;have jgq:=Lib.hid (jgr.below hb5 jf5);clear hI' jiC l0 lb lX jf5 jn4 Ib jgr x0 x1;have q1:=fun o d os=>aG (w:=W5) (b:=X) lX5 o d os
  have q2:=fun o d os=>aG (w:=W5) (b:=w.heap.size) l05 o d os
  have q3:=fun o d os=>aG (w:=W5) (b:=b) lb5 o d os
  have q5:=fun o d os=>aG (w:=W5) (b:=gl) jn7 o d os
  by_cases h1:s.holds[x].bin=bn
  ·have t1:(s.holds[x].jrA=(bn:Int))=false:=by simpa using h1
   by_cases h2:(s.line o kk).good=g
   ·have t2:((s.line o kk).jo2=(g:Int))=false:=by simpa using h2
    have his:(oz s bn g).is s.holds[x]=true:=wB.2 ⟨h1,by rw [jbm.out,jbr.out];exact h2⟩
    have hst:=Lib.hid (hstep his);have WG:=Lib.hid his;clear hstep EG h1 h2 his;gi_wp2_with fail
    refine kU (by kernel_rfl) (by kernel_rfl) (by kernel_rfl) ?_
    repeat (go_big_quiet_step (fail))
    refine wpQuiet_nil ?_
    intro W6 hw6;have hb6:=aI hw6;clear hw6;clear q1 q2 q3 q5 t1 t2;have Xr:=Lib.hid (hI5.out.below hb6);have jgx:=Lib.hid (jot.out.below hb6 lX5);have hblkl6:=Lib.hid (jgq.out.below hb6 jn7);have y6:=(hb6.cell (p:=⟨w.heap.size,0,none⟩) l05).trans y0;have x3:=jgx.out.cell (j:=3) rfl;rw [hmx] at x3
    have jqP:=hb5.trans (hb6.mono hb5.size);clear hI5 jot jgq y0 z1 z2 lc0 x2;gi_wp2_with fail
    refine ⟨bP,CallsIn.inRound l (kD.2 ((jg6 W6 s.holds[x].n Xr.out.bx (by omega) (by omega)).mono ?_))⟩
    rintro e W7 ⟨rfl,hx7,hs7⟩;have hst':=hst.out;change (oz s bn g).mid s.holds v x=(M.set x {s.holds[x] with n:=s.holds[x].n - bI.less ov s.holds[x].n},ov - bI.less ov s.holds[x].n) at hst'
    obtain ⟨n0,hn0⟩:∃ n0,s.holds[x].n=n0:=⟨_,rfl⟩;rw [hn0] at hst' hx7 x3 hNx ⊢
    obtain ⟨mm,hmm⟩:∃ mm,bI.less ov n0=mm:=⟨_,rfl⟩;have jig:0≤mm∧mm≤n0:=by rw [← hmm];unfold bI.less;omega
    rw [hmm] at hst' hx7 ⊢
    have hst2:=Lib.hid hst';have jkN:=Lib.hid hn0;clear hst hst' hn0 hmm;have l06:=aZ l05 hb6.size;have y7:=(hs7.cell (p:=⟨w.heap.size,0,none⟩) l06 (by show ¬ w.heap.size=b;omega)).trans y6
    obtain ⟨gh,c',cur,e1,jqB,jiz,_,_,_,p3⟩:=Xr.out.bx.own.oP (k:=x) (show x<M.length by have:=hml'.out;omega)
    have jjz:(Gg s bn M).holds.length=s.holds.length:=hml'.out;rw [jjz,hV] at e1
    injection e1 with e1 e2 e3
    clear e2 e3 jjz;subst e1;have hgM:hold (Gg s bn M).holds x=s.holds[x]:=by
     show hold M x=_;rw [← Zt.out];exact bV (by have:=hml'.out;omega)
    rw [hgM,jkN.out] at p3
    have jf7:gh≠b:=dw.ne jiz Xr.out.bx.box (by decide)
    have jlj:=hs7.blk jiz jf7;have p37:=(hs7.cell (p:=⟨gh,x*4+3,none⟩) jiz.lt jf7).trans p3;have z7:W7.cell? ⟨b,2,none⟩=some (.slice (some ⟨gh,0,none⟩) s.holds.length ch):=by
     have:=hx7.cells.2.2.1;rw [hV] at this
     exact this
    have hxi:(x:Int)<(s.holds.length:Int):=by omega
    have hwn:IntKind.i64.wrap (n0 - mm)=n0 - mm:=bf _ (by omega)
    have pI:=Lib.hid hx7;have jia:=Lib.hid hs7;clear hx7 hs7 jiz p3 hgM;gi_wp2_with (refine BG rfl (.tmp 61) (.tmp 59) rfl rfl gh (x*4+3) _ (n0 - mm) rfl rfl p37 (jlj.frozen _) (fun w8 hw8=>?_);refine aU ?_)
    unfold Hid;have jgH:x<M.length:=by have:=hml'.out;omega
    have Xp:aO W7 base ⟨k0,k1,.slice (some ⟨gh,0,none⟩) s.holds.length ch,k3,k4,k5,k6,k7,k8⟩ (Gg s bn M):=by
     have:=pI.out.own;rw [hV] at this
     exact this
    obtain ⟨o1,hg1⟩:=Own.store Xp.holds (fun _=>rfl) (i:=x) jgH (show 3<4 by omega) (y:={s.holds[x] with n:=n0 - mm}) (u:=.int .i64 (n0 - mm)) (by
     show bM _=(bM (M[x]'jgH)).set 3 _;rw [Zt.out];rfl)
    rw [hw8] at o1 hg1
    have WR:aO w8 base ⟨k0,k1,.slice (some ⟨gh,0,none⟩) s.holds.length ch,k3,k4,k5,k6,k7,k8⟩ {Gg s bn M with holds:=M.set x {s.holds[x] with n:=n0 - mm}}:=Xp.Qc hg1 o1
    have jla:dw w8 b 95 (V.cells++xu bn g (ov - mm) (.map (some mb))):=pI.out.box.grown hg1 (by intro he;injection he with he;exact jf7 he.symm)
    have hs8:Step (ksH b mb V) W6 w8:=(jia.out.mono fun j hj=>.inl hj).trans (Step.dG hg1 fun j hj=>.inr (.inl (by rw [hV,← hj];rfl)))
    have hm8:∃ D,lS s bn g M (x+1) D∧w8.ownsMap prog 3 (plainElem prog 3) mb (s.holds.length - (x+1)) D:=by
     obtain ⟨D,h1,h2⟩:=Xr.out.mp;have h3:=qG h2 jia.out (fun he=>su h2 Xr.out.bx.box he)
     exact ⟨D,h1,h3.kept hg1 (by intro he;injection he with he;exact su h3 jlj he)⟩
    have y8:=(hg1.block w.heap.size (aZ l06 jia.out.size) (by intro he;injection he with he;have:=(hB'.out.own.holds.size gh rfl).2;omega))
    have y8':w8.cell? ⟨w.heap.size,0,none⟩=some (.pointer (some ⟨b,0,none⟩)):=by
     have:w8.cell? ⟨w.heap.size,0,none⟩=W7.cell? ⟨w.heap.size,0,none⟩:=by unfold World.cell?;rw [y8]
     rw [this];exact y7
    have hkz:aF s.holds o kk bn - aF M o kk bn=0:=by
     have h1:=tH (BU hok) hxl;have h2:=tH (l:=M) (by rw [hmk'.out];exact BU hok) jgH
     rw [Zt.out] at h2
     have h3:=(wB.1 WG.out).1;rw [jbm.out,jbr.out,h3] at h1 h2
     omega
    have hbk0:=hbk o kk ho hkk;have hgx:hkey s.holds[x]=hkey s.holds[x]:=rfl;have jgD:(V.line o)=.slice (some ⟨gl,0,none⟩) (s.order o).lines.length cl:=joa.out;have hol:o<({Gg s bn M with holds:=M.set x {s.holds[x] with n:=n0 - mm}}:State).orders.length:=by show o<(hdO s bn M).length;rw [MI];exact ho
    have hkl:kk<(State.order {Gg s bn M with holds:=M.set x {s.holds[x] with n:=n0 - mm}} o).lines.length:=by
     show kk<((Gg s bn M).order o).lines.length;rw [Ny ho];exact hkk
    have Ob:State.line {Gg s bn M with holds:=M.set x {s.holds[x] with n:=n0 - mm}} o kk={s.line o kk with back:=(s.line o kk).back+(aF s.holds o kk bn - aF M o kk bn)}:=jf0.out
    rw [hkz,mM] at Ob
    rw [hV] at jgD
    obtain ⟨TS,_,_,_,lc8⟩:=WR.jV hol hkl jgD;rw [Ob] at lc8
    obtain ⟨curl8,jix⟩:=jhZ WR hol hkl jgD;have jn5:gl≠b:=dw.ne jix jla (by decide)
    have hwb:IntKind.i64.wrap ((s.line o kk).back+mm)=(s.line o kk).back+mm:=bf _ (by omega)
    have jbN:=Lib.hid WR;have jof:=Lib.hid jla;have jp7:=Lib.hid hs8;have jqh:=Lib.hid hm8;have jkS:=Lib.hid Ob;have joI:=Lib.hid jgD;have jqq:=Lib.hid hkz;clear Xp o1 hg1 WR jla hs8 hm8 y8 hgx hw8 pI jia y7 z7 p37 jlj Ob jgD hkz hwn;gi_wp2_with (refine BG rfl (.tmp 69) (.tmp 67) rfl rfl gl (kk*4+3) _ ((s.line o kk).back+mm) rfl rfl lc8 (jix.frozen _) (fun w9 hw9=>?_);refine aU ?_)
    unfold Hid;obtain ⟨ng,dh⟩:=jbN.out.fG hol hkl joI.out (show 3<4 by omega) (y:={s.line o kk with back:=(s.line o kk).back+mm}) (u:=.int .i64 ((s.line o kk).back+mm)) (by rw [jkS.out];rfl)
    rw [hw9] at ng dh
    have hdst:Gg s bn (M.set x {s.holds[x] with n:=n0 - mm})=({Gg s bn M with holds:=M.set x {s.holds[x] with n:=n0 - mm}}:State).fG o kk {s.line o kk with back:=(s.line o kk).back+mm}:=by
     have:=jf8 (s:=s) (b:=bn) (l:=M) (j:=x) (o:=o) (k:=kk) (m:=mm) (by rw [hmk'.out];exact BU hok) jgH (by rw [Zt.out];exact jbm.out) (by rw [Zt.out];exact jbr.out) (by rw [Zt.out];exact (wB.1 WG.out).1) ho hkk
     rw [Zt.out,jkN.out] at this
     rw [this,jf0.out,jqq.out,mM]
    have Ci:dw w9 b 95 (V.cells++xu bn g (ov - mm) (.map (some mb))):=jof.out.grown dh (by intro he;injection he with he;exact jn5 he.symm)
    have qj:Bx w9 base b 95 (xu bn g (ov - mm) (.map (some mb))) V (Gg s bn (M.set x {s.holds[x] with n:=n0 - mm})):=⟨Ci,by rw [hV,hdst];exact ng,jc2⟩
    have hs9:Step (ksH b mb V) W6 w9:=jp7.out.trans (Step.dG dh fun j hj=>.inr (.inr (.inr ⟨o,by rw [Xr.out.bx.own.llen];show o<(hdO s bn M).length;rw [MI];exact ho,by rw [joa.out,← hj];rfl⟩)))
    have hm9:∃ D,lS s bn g M (x+1) D∧w9.ownsMap prog 3 (plainElem prog 3) mb (s.holds.length - (x+1)) D:=by
     obtain ⟨D,h1,h2⟩:=jqh.out;exact ⟨D,h1,h2.kept dh (by intro he;injection he with he;exact su h2 jix he)⟩
    have jnr:=aZ l05 hb6.size;have lX6:=aZ lX5 hb6.size;have y9:=(hs9.cell (p:=⟨w.heap.size,0,none⟩) jnr (fun h=>by have:=hks.out _ h;simp only at this;omega)).trans y6
    have x09:=(hs9.cell (p:=⟨X,0,none⟩) lX6 (fun h=>by have:=hks.out _ h;simp only at this;omega)).trans (jgx.out.cell (j:=0) rfl)
    have x19:=(hs9.cell (p:=⟨X,1,none⟩) lX6 (fun h=>by have:=hks.out _ h;simp only at this;omega)).trans (jgx.out.cell (j:=1) rfl)
    have z9:=Ci.cell (j:=10) rfl;rw [hmx,jbm.out] at x09
    rw [hmx,jbr.out] at x19
    have jqk:w.heap.size<w9.heap.size:=aZ jnr hs9.size;have jn1:X<w9.heap.size:=aZ lX6 hs9.size;have jqp:b<w9.heap.size:=Ci.lt;have hH9:iR L w9:=fun y hy=>hs9.heap (Xr.out.held y hy) (fun h=>by
     have:=hks.out _ h;rw [hL] at hy
     simp at hy
     rcases hy with rfl|rfl<;>simp only at this<;>omega)
    have sQ:=Lib.hid qj;have jp6:=Lib.hid hs9;have jqg:=Lib.hid hm9;have joS:=Lib.hid hH9;have hk3:kk<3:=by omega
    have hw1:IntKind.i64.wrap ((o:Int)*3)=(o:Int)*3:=bf _ (by omega)
    have jkt:IntKind.i64.wrap ((o:Int)*3+kk)=(o:Int)*3+kk:=bf _ (by omega)
    have hw3:IntKind.i64.wrap mm=mm:=bf _ (by omega)
    clear ng dh Ci qj hs9 hm9 hH9 hdst hw9 lc8 jix y8' hwb y6 x3 jgH;gi_wp2_with fail
    obtain ⟨D,hD1,hD2⟩:=jqg.out;have hkey:keyOf prog 3 (.int .i64 ((o:Int)*3+kk))=some (Fq ((o:Int)*3+kk)):=jfi (by omega)
    have hfresh:has D (Fq ((o:Int)*3+kk))=false:=by
     have:=hD1.fresh hok hxl WG.out;rw [jbm.out,jbr.out] at this
     exact this
    have hlook:∀ w',Below w9.heap.size w9 w'→(Instr.lookup 93 (.map (some mb)) (.int .i64 ((o:Int)*3+kk)) false).run prog w'=.ok (.int .i64 0) w':=fun w' hb=>by
     obtain ⟨c,h1,h2,_⟩:=(hD2.kept (gZ (row:=none) hb) (by simp)).lookup_int Wp underlying93 underlying3 (jce w') hkey
     rw [atKey_of_not_has hfresh] at h2
     injection h2 with h2
     injection h2 with _ h2
     rw [← h2] at h1
     exact h1
    have hlook':=Lib.hid hlook;have hfresh':=Lib.hid hfresh;clear hlook hfresh;refine BH (by kernel_rfl) (fun h=>by obtain ⟨_,_,h⟩:=h;exact h) (by kernel_rfl) (jc3 13 [
     fun g' _=>g' 70=.pointer (some ⟨b,0,none⟩),fun g' _=>g' 71=.pointer (some ⟨b,0,none⟩),fun g' _=>g' 72=.pointer (some ⟨b,10,none⟩),fun g' _=>g' 73=.map (some mb),
     fun g' _=>g' 74=.pointer (some ⟨X,0,none⟩),fun g' _=>g' 75=.int .i64 o,fun g' _=>g' 76=.int .i64 ((o:Int)*3),fun g' _=>g' 77=.pointer (some ⟨X,1,none⟩),fun g' _=>g' 78=.int .i64 kk,
     fun g' _=>g' 79=.int .i64 ((o:Int)*3+kk),fun g' _=>g' 80=.int .i64 0,fun g' _=>g' 81=.int .i64 mm,fun g' _=>g' 82=.int .i64 mm] (by kernel_rfl) rfl (by kernel_rfl) ?jng (fun f w10 hT hR=>?jnh))
    case jng=>
     simp only [eY,eG];refine bg.cons (dU.val rfl rfl (fun gq w' hb ho hd=>?_)) ?_
     ·have e1:=ho 1 rfl;have e2:=(hb.cell (p:=⟨w.heap.size,0,none⟩) jqk).trans y9;go_simp
     refine bg.cons (dU.val rfl rfl (fun gq w' hb ho hd=>?_)) ?_
     ·have e1:gq 70=.pointer (some ⟨b,0,none⟩):=hd ⟨0,.data⟩ (by simp) rfl (by decide)
      go_simp
     refine bg.cons (dU.val rfl rfl (fun gq w' hb ho hd=>?_)) ?_
     ·have e1:gq 71=.pointer (some ⟨b,0,none⟩):=hd ⟨1,.data⟩ (by simp) rfl (by decide)
      go_simp
     refine bg.cons (dU.val rfl rfl (fun gq w' hb ho hd=>?_)) ?_
     ·have e1:gq 72=.pointer (some ⟨b,10,none⟩):=hd ⟨2,.data⟩ (by simp) rfl (by decide)
      have e2:=(hb.cell (p:=⟨b,10,none⟩) jqp).trans z9;go_simp
     refine bg.cons (dU.val rfl rfl (fun gq w' hb ho hd=>?_)) ?_
     ·have e1:=ho 3 rfl;go_simp
     refine bg.cons (dU.val rfl rfl (fun gq w' hb ho hd=>?_)) ?_
     ·have e1:gq 74=.pointer (some ⟨X,0,none⟩):=hd ⟨4,.data⟩ (by simp) rfl (by decide)
      have e2:=(hb.cell (p:=⟨X,0,none⟩) jn1).trans x09;go_simp
     refine bg.cons (dU.val rfl rfl (fun gq w' hb ho hd=>?_)) ?_
     ·have e1:gq 75=.int .i64 o:=hd ⟨5,.data⟩ (by simp) rfl (by decide)
      go_simp
     refine bg.cons (dU.val rfl rfl (fun gq w' hb ho hd=>?_)) ?_
     ·have e1:=ho 3 rfl;go_simp
     refine bg.cons (dU.val rfl rfl (fun gq w' hb ho hd=>?_)) ?_
     ·have e1:gq 77=.pointer (some ⟨X,1,none⟩):=hd ⟨7,.data⟩ (by simp) rfl (by decide)
      have e2:=(hb.cell (p:=⟨X,1,none⟩) jn1).trans x19;go_simp
     refine bg.cons (dU.val rfl rfl (fun gq w' hb ho hd=>?_)) ?_
     ·have e1:gq 76=.int .i64 ((o:Int)*3):=hd ⟨6,.data⟩ (by simp) rfl (by decide)
      have e2:gq 78=.int .i64 kk:=hd ⟨8,.data⟩ (by simp) rfl (by decide)
      go_simp
     refine bg.cons (dU.val rfl rfl (fun gq w' hb ho hd=>?_)) ?_
     ·have e1:gq 73=.map (some mb):=hd ⟨3,.data⟩ (by simp) rfl (by decide)
      have e2:gq 79=.int .i64 ((o:Int)*3+kk):=hd ⟨9,.data⟩ (by simp) rfl (by decide)
      have e3:=hlook'.out w' hb;simp only [execOp,dQ,e1,e2,lW,e3,Result.andThen,nC]
     refine bg.cons (dU.val rfl rfl (fun gq w' hb ho hd=>?_)) ?_
     ·have e1:=ho 5 rfl;go_simp
     refine bg.cons (dU.val rfl rfl (fun gq w' hb ho hd=>?_)) ?_
     ·have e1:gq 80=.int .i64 0:=hd ⟨10,.data⟩ (by simp) rfl (by decide)
      have e2:gq 81=.int .i64 mm:=hd ⟨11,.data⟩ (by simp) rfl (by decide)
      go_simp
     exact bg.nil
    case jnh=>
     obtain ⟨r70,r71,r72,r73,r74,r75,r76,r77,r78,r79,r80,r81,r82,_⟩:=hR;simp only [fU,qZ,eY,eG,lF,mG,mF,mD,jH,mg,iW,iy,iJ,r70,r71,r72,r73,r74,r75,r76,r77,r78,r79,r80,r81,r82];clear r70 r71 r72 r73 r74 r75 r76 r77 r78 r79 r80 r81 r82;have jnY:=hD2.kept (gZ (row:=none) hT) (by simp)
     refine wpList_mapUpdate_own _ rfl (.tmp 73) (.tmp 79) (.tmp 82) 93 rfl 3 3 Wp underlying93 _ mb (s.holds.length - (x+1)) D rfl jnY (by unfold maxLen;omega) _ _ (Fq ((o:Int)*3+kk)) rfl rfl hkey (.lit (.int .i64 mm)) [] (plainElem_int underlying3 (WalkArith.wf_i64 (by omega))) ?_
     intro w11 jbo jdI;refine gy ?_
     have tJ:=sQ.out.below hT;have TN:=tJ.lU jdI (fun r e=>by injection e with e;subst e;exact Di jnY)
     have hs11:Step (ksH b mb V) W6 w11:=(jp6.out.trans (.of_below hT)).trans (Step.dG jdI fun j hj=>.inr (.inr (.inl (by injection hj with hj;exact hj.symm))))
     have jq4:iR L w11:=fun y hy=>by
      have h1:w10.heap[y.1]?=some y.2:=(hT.block y.1 (joS.out.lt y hy)).trans (joS.out y hy);refine (jdI.block y.1 (gX.1 h1).1 fun he=>?_).trans h1
      have hm:=hks.out mb (.inr (.inr (.inl rfl)));injection he with he
      rw [hL] at hy
      simp at hy
      rcases hy with rfl|rfl<;>simp only at he<;>omega
     have hput:=hD1.put hok hxl WG.out jbm.out jbr.out hk3 hmk'.out (by have:=hml'.out;omega) Zt.out (m:=mm)
     rw [jkN.out] at hput
     have hfin:KeepsFrom w2.heap.size W w11∧(k+1≤s.holds.length∧OU w base b mb V s bn g ((oz s bn g).mid s.holds v x).2 ((oz s bn g).mid s.holds v x).1 x L w11):=by
      refine ⟨(sO jqP).trans (TK hs11 fun j hj=>aZ (hks.out j hj) hw2),by omega,?_⟩
      rw [hst2.out];exact ⟨TN,jq4,Xr.out.st.trans hs11,_,hput,jbo.mono (by omega)⟩
     exact hfin
   ·have t2:((s.line o kk).jo2=(g:Int))=true:=by simpa using h2
    have hno:(oz s bn g).is s.holds[x]=false:=by
     cases hq:(oz s bn g).is s.holds[x]
     ·rfl
     ·have:=(wB.1 hq).2;rw [jbm.out,jbr.out] at this
      exact absurd this h2
    have hst:=Lib.hid (EG hno);have hno':=Lib.hid hno;clear hstep EG h1 h2 hno;gi_wp2_with fail
    refine kU (by kernel_rfl) (by kernel_rfl) (by kernel_rfl) ?_
    repeat (go_big_quiet_step (fail))
    refine wpQuiet_nil ?_
    intro W6 hw6;have hb6:=aI hw6;clear hw6;clear q1 q2 q3 q5 t1 t2 y0 z1 z2 lc0 x2;gi_wp2_with fail
    exact ⟨sO (hb5.trans (hb6.mono hb5.size)),by omega,by rw [hst.out];exact (hI5.out.below hb6).skip hxl hno'.out⟩
  ·have t1:(s.holds[x].jrA=(bn:Int))=true:=by simpa using h1
   have hno:(oz s bn g).is s.holds[x]=false:=by
    cases hq:(oz s bn g).is s.holds[x]
    ·rfl
    ·exact absurd (wB.1 hq).1 h1
   have hst:=Lib.hid (EG hno);have hno':=Lib.hid hno;clear hstep EG h1 hno;gi_wp2_with fail
   refine kU (by kernel_rfl) (by kernel_rfl) (by kernel_rfl) ?_
   repeat (go_big_quiet_step (fail))
   refine wpQuiet_nil ?_
   intro W6 hw6;have hb6:=aI hw6;clear hw6;clear q1 q2 q3 q5 t1 y0 z1 z2 lc0 x2;gi_wp2_with fail
   exact ⟨sO (hb5.trans (hb6.mono hb5.size)),by omega,by rw [hst.out];exact (hI5.out.below hb6).skip hxl hno'.out⟩
 case hdone=>
  intro D W hD ⟨hk,hI⟩ hWd;rw [AY] at hI
  have hmv:(oz s bn g).rest s.holds v=((oz s bn g).mid s.holds v 0).1.filter fun x=>!(x.n==0):=by
   rw [bI.mid_zero];unfold bI.rest;refine fO (fun f=>List.filter f ((oz s bn g).cut s.holds v).1) (funext fun x=>?_)
   show (!decide (x.n=0))= !(x.n==0);by_cases hx:x.n=0<;>simp [hx]
  have hml:=bI.Jc (C:=oz s bn g) s.holds v 0;obtain ⟨M,ov,hmid⟩:∃ M ov,(oz s bn g).mid s.holds v 0=(M,ov):=⟨_,_,rfl⟩;rw [hmid] at hI hml hmv
  simp only at hI hml hmv
  have jie:=Lib.hid hmv;have hmid':=Lib.hid hmid;clear hmv hmid;have hI':=Lib.hid hI;have y0:W.cell? ⟨w.heap.size,0,none⟩=some (.pointer (some ⟨b,0,none⟩)):=Boxed.cell (show Boxed W w.heap.size 91 (.pointer (some ⟨b,0,none⟩)) from hI.held (w.heap.size,Obj.cells #[.pointer (some ⟨b,0,none⟩)] 91 (0,0)) (by rw [hL];simp))
  have l0:=hI.held.lt (w.heap.size,Obj.cells #[.pointer (some ⟨b,0,none⟩)] 91 (0,0)) (by rw [hL];simp)
  simp only at l0
  have c3:=hI.bx.cells.2.2.1;rw [hV] at c3
  simp only at c3
  have hnb:=Lib.hid (show ∀ j,(Value.slice Ah s.holds.length ch).ownBlock=some j→j≠b∧j<w.heap.size from fun j hj=>by
   refine ⟨fun he=>?_,(hB'.out.own.holds.size j hj).2⟩
   rcases hI.bx.own.holds.iD hI.bx.box (by decide) with h|h
   ·rw [hV] at h;simp only at h;rw [h] at hj;cases hj
   ·rw [hV] at h;exact h (by rw [← he];exact hj))
  have lb:b<W.heap.size:=hI.bx.lt;have hLD:D≠b:=by omega
  clear hI;gi_wp2_with fail
  have jfW:=Lib.hid hml;clear hml;refine wP 10 (fun w'=>Step (fun j=>(Value.slice Ah s.holds.length ch).ownBlock=some j) W w') (fun w'=>Below W.heap.size W w') (fun w1 w2=>Step (fun j=>(Value.slice Ah s.holds.length ch).ownBlock=some j) w1 w2) 6 [
   fun g' _=>g' 83=.pointer (some ⟨b,0,none⟩),fun g' _=>g' 84=.pointer (some ⟨b,0,none⟩),fun g' _=>g' 85=.pointer (some ⟨b,0,none⟩),fun g' _=>g' 86=.pointer (some ⟨b,0,none⟩),fun g' _=>g' 87=.pointer (some ⟨b,2,none⟩),
   fun g' _=>g' 88=.slice Ah s.holds.length ch,fun g' w'=>Own bM 4 46 w' base (g' 89) (M.filter fun x=>!(x.n==0)),
   fun g' _=>g' 90=.pointer (some ⟨b,0,none⟩),fun g' _=>g' 91=.pointer (some ⟨b,0,none⟩),fun g' _=>g' 92=.pointer (some ⟨b,2,none⟩)] (by kernel_rfl) (by kernel_rfl) rfl (by kernel_rfl)
   (fun w1 w2 h hb=>h.trans (.of_below hb)) (fun w1 w2 h h'=>h.trans h') (fun w1 w2 h hb=>h.trans (hb.mono h.size)) (.of_below (aj _ _).drew) (aj _ _).drew ?jg2 (fun f w9 hT hR=>?jg3)
  case jg2=>
   simp only [eY,eG];refine bZ.cons (fV.val rfl rfl (by decide) (fun gq w' hT ho hd=>?_)) ?_
   ·have e1:=ho 1 rfl;have e2:=(hT.cell (p:=⟨w.heap.size,0,none⟩) l0 (fun h=>by have:=(hnb.out _ h).2;simp only at this;omega)).trans y0
    go_simp
   refine bZ.cons (fV.val rfl rfl (by decide) (fun gq w' hT ho hd=>?_)) ?_
   ·have e1:=ho 1 rfl;have e2:=(hT.cell (p:=⟨w.heap.size,0,none⟩) l0 (fun h=>by have:=(hnb.out _ h).2;simp only at this;omega)).trans y0
    go_simp
   refine bZ.cons (fV.val rfl rfl (by decide) (fun gq w' hT ho hd=>?_)) ?_
   ·have e1:gq 84=.pointer (some ⟨b,0,none⟩):=hd ⟨1,.data⟩ (by simp) rfl (by decide)
    go_simp
   refine bZ.cons (fV.val rfl rfl (by decide) (fun gq w' hT ho hd=>?_)) ?_
   ·have e1:gq 85=.pointer (some ⟨b,0,none⟩):=hd ⟨2,.data⟩ (by simp) rfl (by decide)
    go_simp
   refine bZ.cons (fV.val rfl rfl (by decide) (fun gq w' hT ho hd=>?_)) ?_
   ·have e1:gq 86=.pointer (some ⟨b,0,none⟩):=hd ⟨3,.data⟩ (by simp) rfl (by decide)
    go_simp
   refine bZ.cons (fV.val rfl rfl (by decide) (fun gq w' hT ho hd=>?_)) ?_
   ·have e1:gq 87=.pointer (some ⟨b,2,none⟩):=hd ⟨4,.data⟩ (by simp) rfl (by decide)
    have e2:=(hT.cell (p:=⟨b,2,none⟩) lb (fun h=>(hnb.out _ h).1 rfl)).trans c3
    go_simp
   refine bZ.cons ⟨fun gq w1 w2 h hb=>h.below hb,fun hne=>absurd rfl hne,fun gq gq' w1 he h=>?_,fun gq w' hT hJ ho hd=>?_⟩ ?_
   ·have e61:=he 6 _ 89 (.self 6) rfl rfl;simp only [e61] at h
    exact h
   ·have e1:gq 88=.slice Ah s.holds.length ch:=hd ⟨5,.data⟩ (by simp) rfl (by decide)
    have hbel:=hJ rfl;have hcall:=Oo w' base (.slice Ah s.holds.length ch) M 119 #[] (fun x=>x.n==0) jgX (by have:=(hI'.out.below hbel).bx.own.holds;rw [hV] at this;exact this) (by have:=jfW.out;omega) (fun k _ V _=>jk5 V _)
    unfold dO;go_simp
    refine hcall.mono ?_
    rintro e w'' ⟨v',rfl,ho',hs',_⟩;refine ⟨_,rfl,?_,hs'⟩
    simpa [kH,upd] using ho'
   refine bZ.cons (fV.val rfl rfl (by decide) (fun gq w' hT ho hd=>?_)) ?_
   ·have e1:gq 83=.pointer (some ⟨b,0,none⟩):=hd ⟨0,.data⟩ (by simp) rfl (by decide)
    go_simp
   refine bZ.cons (fV.val rfl rfl (by decide) (fun gq w' hT ho hd=>?_)) ?_
   ·have e1:gq 90=.pointer (some ⟨b,0,none⟩):=hd ⟨7,.data⟩ (by simp) rfl (by decide)
    go_simp
   refine bZ.cons (fV.val rfl rfl (by decide) (fun gq w' hT ho hd=>?_)) ?_
   ·have e1:gq 91=.pointer (some ⟨b,0,none⟩):=hd ⟨8,.data⟩ (by simp) rfl (by decide)
    go_simp
   exact bZ.nil
  case jg3=>
   obtain ⟨r83,r84,r85,r86,r87,r88,zD,r90,r91,r92,_⟩:=hR;obtain ⟨A9,c9,JG⟩:=zD.isSlice;rw [JG] at zD
   simp only [fU,qZ,eY,eG,lF,mG,mF,mD,jH,mg,iW,iy,iJ,r83,r84,r85,r86,r87,r88,JG,r90,r91,r92];clear r83 r84 r85 r86 r87 r88 r90 r91 r92 JG;have hO0:aO W base ⟨k0,k1,.slice Ah s.holds.length ch,k3,k4,k5,k6,k7,k8⟩ (Gg s bn M):=by
    have:=hI'.out.bx.own;rw [hV] at this
    exact this
   have ng:aO w9 base ⟨k0,k1,.slice A9 (M.filter fun x=>!(x.n==0)).length c9,k3,k4,k5,k6,k7,k8⟩ {Gg s bn M with holds:=M.filter fun x=>!(x.n==0)}:=hO0.Us hT zD
   have Ci:dw w9 b 95 (SV.cells ⟨k0,k1,.slice Ah s.holds.length ch,k3,k4,k5,k6,k7,k8⟩++xu bn g ov (.map (some mb))):=by
    have:=hT.blk hI'.out.bx.box (fun h=>(hnb.out _ h).1 rfl)
    rw [hV] at this
    exact this
   refine zU rfl (.tmp 92) (.tmp 89) rfl rfl A9 (M.filter fun x=>!(x.n==0)).length c9 (V:=⟨k0,k1,.slice Ah s.holds.length ch,k3,k4,k5,k6,k7,k8⟩) (cs:=xu bn g ov (.map (some mb))) (b:=b) Ci ng jc2 rfl rfl rfl (fun w10 tJ nJ=>?_)
   refine gy ?_
   have hD9:w9.heap[D]?=some (.deferred (some [])):=hT.heap hWd (fun h=>by have:=(hnb.out _ h).2;omega)
   have jgI:=nJ.heap hD9 hLD;have hs10:Step (ksH b mb V) w w10:=hI'.out.st.trans ((hT.mono fun j h=>.inr (.inl (by rw [hV];exact h))).trans (nJ.mono fun j h=>.inl h))
   obtain ⟨DD,hc1,hc2⟩:=hI'.out.mp;have hmo:=Di hc2;have hc3:=qG hc2 hT (fun h=>by
    obtain ⟨cur,hcb⟩:=hO0.holds.block h;obtain ⟨o',ho1,ho2⟩:=hmo;rw [hcb] at ho1
    injection ho1 with ho1
    subst ho1;cases ho2)
   have hc4:=qG hc3 nJ (fun h=>su hc3 Ci h)
   have jQ:=Lib.hid tJ;clear tJ nJ ng Ci hT zD hc2 hc3 hO0;go_wp2_with fail;have hgD:=grownBy_putObj' w10 D (.deferred none);have TN:=jQ.out.lU hgD (fun r e=>by cases e;exact ⟨_,jgI,rfl⟩)
   refine ⟨by simp,.inl ⟨_,_,rfl,run_takeDeferred jgI,?_⟩⟩
   have hkk:∀ o k:Nat,aF ((oz s bn g).rest s.holds v) o k bn=aF M o k bn:=fun o k=>by
    have hmk:=bI.jcB (C:=oz s bn g) hkey (fun _ _=>rfl) s.holds v 0
    rw [hmid'.out] at hmk
    have hf:(fun x:Hold=>!(x.n==0))=fun x=>!decide (x.n=0):=funext fun x=>by by_cases hx:x.n=0<;>simp [hx]
    rw [jie.out,hf];exact YZ (by rw [hmk];exact BU hok) o k bn
   refine ⟨.tuple #[],Gl rfl _ _ _,rfl,⟨k0,k1,.slice A9 (M.filter fun x=>!(x.n==0)).length c9,k3,k4,k5,k6,k7,k8⟩,ov,DD,rfl,?_,?_,hc1.congr hkk,?_⟩
   ·have e:Gg s bn ((oz s bn g).rest s.holds v)={Gg s bn M with holds:=M.filter fun x=>!(x.n==0)}:=by
     unfold Gg;rw [jdJ hkk,jie.out]
    rw [e];exact TN
   ·rw [← hV];refine hs10.trans' (Step.dG (ks:=fun k=>some D=some k) hgD fun k e=>e) fun k hk e=>?_
    injection e with e
    omega
   ·refine (hc4.kept hgD (fun e=>?_)).mono (by omega)
    injection e with e
    omega
end Wh
namespace Go.Proofs
open Go.Shelf
def Wh.keysA_ren:Go.Shelf.Ren:=⟨fun|7=>66|10=>122|n=>n,fun|23=>93|26=>3|3=>3|28=>98|0=>0|27=>97|33=>158|4=>4|n=>n,fun|n=>n⟩
theorem Wh.keysA:Go.Proofs.SlLaysZI.n7 Tryz.prog Wh.keysA_ren:={
 mixed:=by kernel_rfl
 f7:=⟨Tryz.f66.name,by decide,Tryz.func66.trans (fO some (by kernel_rfl))⟩
 f10:=⟨Tryz.f122.name,by decide,Tryz.func122.trans (fO some (by kernel_rfl))⟩
 t0:=Tryz.underlying0
 a0:=Tryz.isAgg0
 z0:=Tryz.sizeOf0
 v0:=Tryz.zeroValue0
 t4:=Tryz.underlying4
 a4:=Tryz.isAgg4
 z4:=Tryz.sizeOf4
 v4:=Tryz.zeroValue4
 t23:=Tryz.underlying93
 a23:=Tryz.isAgg93
 z23:=Tryz.sizeOf93
 v23:=Tryz.zeroValue93
 t26:=Tryz.underlying3
 a26:=Tryz.isAgg3
 z26:=Tryz.sizeOf3
 v26:=Tryz.zeroValue3
 t27:=Tryz.underlying97
 a27:=Tryz.isAgg97
 z27:=Tryz.sizeOf97
 v27:=Tryz.zeroValue97
 t28:=Tryz.underlying98
 a28:=Tryz.isAgg98
 z28:=Tryz.sizeOf98
 v28:=Tryz.zeroValue98
 t33:=Tryz.underlying158
 a33:=Tryz.isAgg158
 z33:=Tryz.sizeOf158
 v33:=Tryz.zeroValue158}
def Wh.sortedA_ren:Go.Shelf.Ren:=⟨fun|6=>65|8=>120|9=>121|11=>161|13=>163|12=>162|23=>179|24=>180|14=>170|15=>171|16=>172|17=>173|18=>174|19=>175|20=>176|21=>177|22=>178|25=>185|26=>186|27=>187|28=>188|29=>189|30=>190|31=>192|n=>n,fun|26=>3|28=>98|24=>23|0=>0|3=>3|37=>196|48=>213|50=>215|4=>4|40=>206|39=>205|45=>141|5=>5|9=>9|51=>218|55=>178|57=>223|58=>224|33=>158|n=>n,fun|n=>n⟩
theorem Wh.sortedA:Go.Proofs.SlLaysZI.n6 Tryz.prog Wh.sortedA_ren:={
 mixed:=by kernel_rfl
 f6:=⟨Tryz.f65.name,by decide,Tryz.func65.trans (fO some (by kernel_rfl))⟩
 f8:=⟨Tryz.f120.name,by decide,Tryz.func120.trans (fO some (by kernel_rfl))⟩
 f11:=⟨Tryz.f161.name,by decide,Tryz.func161.trans (fO some (by kernel_rfl))⟩
 t0:=Tryz.underlying0
 a0:=Tryz.isAgg0
 z0:=Tryz.sizeOf0
 v0:=Tryz.zeroValue0
 t24:=Tryz.underlying23
 a24:=Tryz.isAgg23
 z24:=Tryz.sizeOf23
 v24:=Tryz.zeroValue23
 t26:=Tryz.underlying3
 a26:=Tryz.isAgg3
 z26:=Tryz.sizeOf3
 v26:=Tryz.zeroValue3
 t28:=Tryz.underlying98
 a28:=Tryz.isAgg98
 z28:=Tryz.sizeOf98
 v28:=Tryz.zeroValue98
 i26:=by kernel_rfl}
def Wh.jdf:Go.Shelf.Ren:=⟨fun|5=>121|8=>163|7=>162|19=>179|20=>180|10=>170|11=>171|12=>172|13=>173|14=>174|15=>175|16=>176|17=>177|18=>178|30=>185|31=>186|32=>187|33=>188|34=>189|35=>190|40=>192|n=>n,fun|23=>23|25=>3|3=>3|32=>196|22=>23|0=>0|44=>213|46=>215|4=>4|36=>206|35=>205|41=>141|5=>5|9=>9|53=>218|57=>178|63=>223|64=>224|n=>n,fun|n=>n⟩
theorem Wh.sortA:Go.Proofs.SlLaysM.n5 Tryz.prog Wh.jdf:={
 mixed:=by kernel_rfl
 f5:=⟨Tryz.f121.name,by decide,Tryz.func121.trans (fO some (by kernel_rfl))⟩
 f7:=⟨Tryz.f162.name,by decide,Tryz.func162.trans (fO some (by kernel_rfl))⟩
 f8:=Tryz.func163.trans (fO some (by kernel_rfl))
 f10:=⟨Tryz.f170.name,by decide,Tryz.func170.trans (fO some (by kernel_rfl))⟩
 f11:=⟨Tryz.f171.name,by decide,Tryz.func171.trans (fO some (by kernel_rfl))⟩
 f12:=⟨Tryz.f172.name,by decide,Tryz.func172.trans (fO some (by kernel_rfl))⟩
 f13:=⟨Tryz.f173.name,by decide,Tryz.func173.trans (fO some (by kernel_rfl))⟩
 f14:=⟨Tryz.f174.name,by decide,Tryz.func174.trans (fO some (by kernel_rfl))⟩
 f15:=⟨Tryz.f175.name,by decide,Tryz.func175.trans (fO some (by kernel_rfl))⟩
 f16:=⟨Tryz.f176.name,by decide,Tryz.func176.trans (fO some (by kernel_rfl))⟩
 f17:=⟨Tryz.f177.name,by decide,Tryz.func177.trans (fO some (by kernel_rfl))⟩
 f18:=⟨Tryz.f178.name,by decide,Tryz.func178.trans (fO some (by kernel_rfl))⟩
 f19:=Tryz.func179.trans (fO some (by kernel_rfl))
 f20:=Tryz.func180.trans (fO some (by kernel_rfl))
 f30:=⟨Tryz.f185.name,by decide,Tryz.func185.trans (fO some (by kernel_rfl))⟩
 f31:=Tryz.func186.trans (fO some (by kernel_rfl))
 f32:=Tryz.func187.trans (fO some (by kernel_rfl))
 f33:=⟨Tryz.f188.name,by decide,Tryz.func188.trans (fO some (by kernel_rfl))⟩
 f34:=⟨Tryz.f189.name,by decide,Tryz.func189.trans (fO some (by kernel_rfl))⟩
 f35:=⟨Tryz.f190.name,by decide,Tryz.func190.trans (fO some (by kernel_rfl))⟩
 f40:=⟨Tryz.f192.name,by decide,Tryz.func192.trans (fO some (by kernel_rfl))⟩
 t0:=Tryz.underlying0
 a0:=Tryz.isAgg0
 z0:=Tryz.sizeOf0
 v0:=Tryz.zeroValue0
 t3:=Tryz.underlying3
 a3:=Tryz.isAgg3
 z3:=Tryz.sizeOf3
 v3:=Tryz.zeroValue3
 t4:=Tryz.underlying4
 a4:=Tryz.isAgg4
 z4:=Tryz.sizeOf4
 v4:=Tryz.zeroValue4
 t5:=Tryz.underlying5
 a5:=Tryz.isAgg5
 z5:=Tryz.sizeOf5
 v5:=Tryz.zeroValue5
 t9:=Tryz.underlying9
 a9:=Tryz.isAgg9
 z9:=Tryz.sizeOf9
 v9:=Tryz.zeroValue9
 t22:=Tryz.underlying23
 a22:=Tryz.isAgg23
 z22:=Tryz.sizeOf23
 v22:=Tryz.zeroValue23
 t23:=Tryz.underlying23
 a23:=Tryz.isAgg23
 z23:=Tryz.sizeOf23
 v23:=Tryz.zeroValue23
 t25:=Tryz.underlying3
 a25:=Tryz.isAgg3
 z25:=Tryz.sizeOf3
 v25:=Tryz.zeroValue3
 t32:=Tryz.underlying196
 a32:=Tryz.isAgg196
 z32:=Tryz.sizeOf196
 v32:=Tryz.zeroValue196
 t35:=Tryz.underlying205
 a35:=Tryz.isAgg205
 z35:=Tryz.sizeOf205
 v35:=Tryz.zeroValue205
 t36:=Tryz.underlying206
 a36:=Tryz.isAgg206
 z36:=Tryz.sizeOf206
 v36:=Tryz.zeroValue206
 t41:=Tryz.underlying141
 a41:=Tryz.isAgg141
 z41:=Tryz.sizeOf141
 v41:=Tryz.zeroValue141
 t44:=Tryz.underlying213
 a44:=Tryz.isAgg213
 z44:=Tryz.sizeOf213
 v44:=Tryz.zeroValue213
 t46:=Tryz.underlying215
 a46:=Tryz.isAgg215
 z46:=Tryz.sizeOf215
 v46:=Tryz.zeroValue215
 t53:=Tryz.underlying218
 a53:=Tryz.isAgg218
 z53:=Tryz.sizeOf218
 v53:=Tryz.zeroValue218
 t57:=Tryz.underlying178
 a57:=Tryz.isAgg178
 z57:=Tryz.sizeOf178
 v57:=Tryz.zeroValue178
 t63:=Tryz.underlying223
 a63:=Tryz.isAgg223
 z63:=Tryz.sizeOf223
 v63:=Tryz.zeroValue223
 t64:=Tryz.underlying224
 a64:=Tryz.isAgg224
 z64:=Tryz.sizeOf224
 v64:=Tryz.zeroValue224}
end Go.Proofs
namespace Wh
open Go Go.RowKit Go.Maps Go.Sort Go.Shelf Go.Proofs Tryz
theorem jev (m:Nat):AnyZI.SortsIn prog Wh.sortedA_ren Fence.wide m:=
 ⟨fun blk off cap ss W hH hblk hsz=>kD.2 (AnyM.slices_Sort_int Wh.sortA blk off cap ss W hH hblk hsz),fun p cap W=>kD.2 (AnyM.slices_Sort_int_none Wh.sortA p cap W)⟩
theorem keysOf (mb:Option Nat) (W:World):Calls prog 66 #[.map mb] W fun e w'=>e=.returned (.func (.func 122) #[] #[.pointer (some ⟨W.heap.size,0,none⟩)])∧w'=W.alloc (.cells #[.map mb] 93):=
 (kD (n:=5)).1 (AnyZI.keys_in Wh.keysA Fence.wide 5 bP rfl mb W)
theorem jaC (b nn:Nat) (D0:DataW Unit) (R:Value→Option (DataW Unit×List MemPlace)) (w:World) (hown:w.ownsMap prog 3 R b nn D0) (hmax:Maps.size D0≤1000000):
  Calls prog 65 #[.func (.func 122) #[] #[.pointer (some ⟨w.heap.size,0,none⟩)]] (w.alloc (.cells #[.map (some b)] 93)) fun e w'=>∃ (v:Value) (ss:List Int),e=.returned v∧ss.Perm (intKeys D0)∧
   w'.ownsRow (w.alloc (.cells #[.map (some b)] 93)).heap.size 3 1 v ss.length ((ss.mergeSort (fun x y=>decide (x≤y))).map encZ)∧Below (w.alloc (.cells #[.map (some b)] 93)).heap.size (w.alloc (.cells #[.map (some b)] 93)) w':=by
 have hbl:=hown.lt;have hseq:SeqGives Fence.wide 2 prog 122 #[.pointer (some ⟨w.heap.size,0,none⟩)] encZ (fun ss=>ss.Perm (intKeys D0)) (Maps.size D0) (w.alloc (.cells #[.map (some b)] 93)):=
  AnyZI.keys_gives (ρ:=Wh.keysA_ren) {Wh.keysA with} Fence.wide _ bP rfl (by omega) w.heap.size b nn D0 _ (by simp) (by simp) (by
   obtain ⟨es,clock,hb,Ft,hs,hD⟩:=hown;exact ⟨es,clock,(LK _ _ b hbl).trans hb,Ft,hs,hD⟩)
 have cS:=AnyZI.sorted_in Wh.sortedA Fence.wide 5 bP bP bP bP rfl (by omega) (jev _) (enters_of func121 (by kernel_rfl) rfl) 122 #[.pointer (some ⟨w.heap.size,0,none⟩)] bP (enters_of func122 (by kernel_rfl) rfl) _ _ (by unfold maxLen;omega) (by omega) _ hseq
 refine ((kD (n:=5)).1 cS).mono ?_
 rintro e w' ⟨v,ss,h1,h2,h3,_,h5⟩;exact ⟨v,ss,h1,h2,h3,h5⟩
end Wh
