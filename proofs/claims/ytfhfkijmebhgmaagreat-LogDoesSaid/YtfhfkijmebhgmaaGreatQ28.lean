/- Texts of the claim, joined. -/
import Derived.BigQuiet
import Derived.WalkMore
import Derived.Test.YtfhfkijmebhgmaaGreatQ27
set_option maxHeartbeats 20000000
set_option maxRecDepth 100000
namespace Wh
open Go Go.RowKit Go.Shelf Go.Proofs Tryz
theorem zq {B:Nat} {W W':World} {row:Option Nat} (hg:W.grownBy W' row) (hr:∀ r,row=some r→∃ cs t sp,W.heap[r]?=some (.cells cs t sp)):KeepsFrom B W W':=
 ⟨hg.size,fun k o _ hk hn=>(hg.block k (gX.1 hk).1 (fun e=>by
  obtain ⟨cs,t,sp,hc⟩:=hr k e.symm;rw [hc] at hk
  injection hk with hk
  subst hk;cases hn)).trans hk⟩
theorem sO {B:Nat} {W W':World} (h:Below W.heap.size W W'):KeepsFrom B W W':=⟨h.size,fun k _ _ hk _=>(h.block k (gX.1 hk).1).trans hk⟩
theorem Bx.jeM {w:World} {base b:Nat} {t:TypeId} {rest:List Value} {V:SV} {s:State} (h:Bx w base b t rest V s) {r:Nat} (hr:some r=V.moves.ownBlock):∃ cs t sp,w.heap[r]?=some (.cells cs t sp):=by
 obtain ⟨cur,hc⟩:=h.own.moves.block hr.symm;exact ⟨_,_,_,hc⟩
theorem jeO (p:Plan) (f:Bool) (n:Nat) (h2:2≤n) {g:Operand} {q sb:Nat} {assign body:Code} {Q:Exit→Act→World→Prop} {a:Act} {w:World} (Bp Bf n₀:Nat) (Ab As:Option Addr) (cb cs:Nat) (hlb:p.aH.length≤6) (hn0:n₀≤w.heap.size) (hBp:Bp<w.heap.size) (Zu:Bf<w.heap.size)
  (hg:a.eval g=.func (.func 156) #[] #[.pointer (some ⟨Bp,0,none⟩),.pointer (some ⟨Bf,0,none⟩)])
  (hp0:w.cell? ⟨Bp,0,none⟩=some (.slice Ab p.aH.length cb)) (hp1:w.cell? ⟨Bp,1,none⟩=some (.slice As p.sizes.length cs)) (hf:w.cell? ⟨Bf,0,none⟩=some (.bool f)) (hA:At w n₀ Ab (p.aH.flatMap Jv))
  (I:List (xM p f)→World→Prop) (Ix:Code→List (xM p f)→World→Prop) (hI:OwnFrom w.heap.size I) (hIx:∀ c,OwnFrom w.heap.size (Ix c)) (h0:I [] w) (hsz:∀ pre W,I pre W→w.heap.size≤W.heap.size)
  (hassign:∀ (l:Nat) (x:xM p f) (W:World) (K:Act→World→Prop),K {tmps:=(a.tmps.setIfInBounds q (.int .i64 ((x.1:Nat):Int))).setIfInBounds sb (.pointer (some ⟨W.heap.size,0,none⟩)),defers:=[]} (W.alloc (.cells #[.int .i64 ((x.1:Nat):Int)] 3))→
   assign.wpIn (Fence.wide.inRound l) (n - 1 - 1) prog (Exit.then K (fun _ _ _=>False)) {tmps:=a.tmps.setIfInBounds q (.int .i64 ((x.1:Nat):Int)),defers:=[]} W)
  (hbody:∀ (l:Nat) (pre:List (xM p f)) (x:xM p f) (B:Nat) (W:World),w.heap.size≤l→(∃ r,W.heap[l]?=some (.loop r))→I pre W→Boxed W B 3 (.int .i64 ((x.1:Nat):Int))→w.heap.size≤B→
   body.wpIn (Fence.wide.inRound l) (n - 1 - 1) prog (ownPostG w.heap.size (KpB n₀ Bf) I Ix (pre++[x]) W) {tmps:=(a.tmps.setIfInBounds q (.int .i64 ((x.1:Nat):Int))).setIfInBounds sb (.pointer (some ⟨B,0,none⟩)),defers:=[]} W)
  (hdone:∀ (D:Nat) (W:World),w.heap.size≤D→I (jd p f p.aH.length) W→W.heap[D]?=some (.deferred (some []))→Q .normal {a with defers:={target:=.collected D,args:=#[]}::a.defers} W)
  (hstop:∀ (D:Nat) (c:Code) (k:Nat) (W:World),w.heap.size≤D→k≤p.aH.length→Ix c (jd p f k) W→W.heap[D]?=some (.deferred (some []))→c.wpIn Fence.wide n prog Q {a with defers:={target:=.collected D,args:=#[]}::a.defers} W):
  (Code.rangeFunc g #[q] assign body).wpIn Fence.wide n prog Q a w:=by
 refine wpIn_rangeFunc_ownH rfl (by omega) (gf:=156) (lb:=#[.pointer (some ⟨Bp,0,none⟩),.pointer (some ⟨Bf,0,none⟩)]) hg bP (enters_of func156 (by kernel_rfl) rfl)
  (OA Fence.wide (n - 1) bP rfl (by omega) Bp Bf n₀ p f Ab As cb cs hlb w hn0 hBp Zu hp0 hp1 hf hA)
  (fun h k=>⟨h.1.trans k.1,k.2.trans h.2⟩)
  (fun W l o o' hl ho hc hw=>⟨belowK_b hn0 W l o o' hl ho hc hw,((aj w.heap.size W).grown (grownBy_putObj' W l o') (by have:=(gX.1 ho).1;omega) (fun k e=>by cases e;exact hl)).cell (p:=⟨Bf,0,none⟩) Zu⟩)
  (aj _ _) (fun _=>rfl) I Ix hI hIx h0
  (fun x a' W=>∃ B,w.heap.size≤B∧a'={tmps:=(a.tmps.setIfInBounds q (.int .i64 ((x.1:Nat):Int))).setIfInBounds sb (.pointer (some ⟨B,0,none⟩)),defers:=[]}∧Boxed W B 3 (.int .i64 ((x.1:Nat):Int)))
  (fun x a' _ X Y row hs hg' hr=>by
   obtain ⟨B,h1,h3,h4⟩:=hs;exact ⟨B,h1,h3,(boxed_own B 3 (fun _:Unit=>Value.int .i64 ((x.1:Nat):Int))) () X Y row h4 hg' (fun r e=>(hr r e).2)⟩)
  (fun l pre x W K Xq hK=>?_) (fun l pre x a' W hl hr Xq hAx hlt=>?_) (fun D xs W hD hS Xq hW=>?_) (fun D c pre W hD hS Xq hW=>?_)
 ·have hz:Array.foldl (fun t (x:Nat×Value)=>match x with|(p,v)=>t.setIfInBounds p v) a.tmps (#[q].zip #[Value.int .i64 ((x.1:Nat):Int)])=a.tmps.setIfInBounds q (.int .i64 ((x.1:Nat):Int)):=by simp
  rw [hz];refine hassign l x W K (hK _ _ (zq (D9 W _ none) (fun r e=>by cases e)) ⟨(aj _ _).alloc (bJ hn0 (hsz _ _ Xq)) _,((aj W.heap.size W).alloc (aA _) _).cell (p:=⟨Bf,0,none⟩) (aZ Zu (hsz _ _ Xq))⟩ (hI.alloc _ Xq) ⟨W.heap.size,hsz _ _ Xq,rfl,Boxed.new W _ _⟩)
 ·obtain ⟨B,h1,rfl,h4⟩:=hAx;exact hbody l pre x B W hl hr Xq h4 h1
 ·subst hS;exact hdone D W hD Xq hW
 ·obtain ⟨k,hk,rfl⟩:=hS;exact hstop D c k W hD hk Xq hW
theorem jaK (p:Plan) (f:Bool) (n l₀:Nat) (h2:2≤n) {g:Operand} {q sb:Nat} {assign body:Code} {Q:Exit→Act→World→Prop} {a:Act} {w:World} {r₀:Loop} (hl₀:w.heap[l₀]?=some (.loop r₀)) (Bp Bf n₀:Nat) (Ab As:Option Addr) (cb cs:Nat) (hlb:p.aH.length≤6) (hn0:n₀≤w.heap.size) (hBp:Bp<w.heap.size) (Zu:Bf<w.heap.size)
  (hg:a.eval g=.func (.func 156) #[] #[.pointer (some ⟨Bp,0,none⟩),.pointer (some ⟨Bf,0,none⟩)])
  (hp0:w.cell? ⟨Bp,0,none⟩=some (.slice Ab p.aH.length cb)) (hp1:w.cell? ⟨Bp,1,none⟩=some (.slice As p.sizes.length cs)) (hf:w.cell? ⟨Bf,0,none⟩=some (.bool f)) (hA:At w n₀ Ab (p.aH.flatMap Jv))
  (I:List (xM p f)→World→Prop) (Ix:Code→List (xM p f)→World→Prop) (hI:OwnFrom w.heap.size I) (hIx:∀ c,OwnFrom w.heap.size (Ix c)) (h0:I [] w)
  (hassign:∀ (l:Nat) (x:xM p f) (W:World) (K:Act→World→Prop),K {tmps:=(a.tmps.setIfInBounds q (.int .i64 ((x.1:Nat):Int))).setIfInBounds sb (.int .i64 ((x.1:Nat):Int)),defers:=[]} W→
   assign.wpIn (Fence.wide.inRound l) (n - 1 - 1) prog (Exit.then K (fun _ _ _=>False)) {tmps:=a.tmps.setIfInBounds q (.int .i64 ((x.1:Nat):Int)),defers:=[]} W)
  (hbody:∀ (l:Nat) (pre:List (xM p f)) (x:xM p f) (W:World),I pre W→
   body.wpIn (Fence.wide.inRound l) (n - 1 - 1) prog (ownPostG w.heap.size (KpB n₀ Bf) I Ix (pre++[x]) W) {tmps:=(a.tmps.setIfInBounds q (.int .i64 ((x.1:Nat):Int))).setIfInBounds sb (.int .i64 ((x.1:Nat):Int)),defers:=[]} W)
  (hdone:∀ (W:World),I (jd p f p.aH.length) W→Q .normal a W)
  (hstop:∀ (c:Code) (k:Nat) (W:World),k≤p.aH.length→Ix c (jd p f k) W→c.wpIn (Fence.wide.inRound l₀) n prog Q a W):
  (Code.rangeFunc g #[q] assign body).wpIn (Fence.wide.inRound l₀) n prog Q a w:=by
 refine wpIn_rangeFunc_ownN (F:=Fence.wide.inRound l₀) (l₀:=l₀) rfl hl₀ (by omega) (gf:=156) (lb:=#[.pointer (some ⟨Bp,0,none⟩),.pointer (some ⟨Bf,0,none⟩)]) hg bP (enters_of func156 (by kernel_rfl) rfl)
  (SeqStopsK.inRound l₀ (OA Fence.wide (n - 1) bP rfl (by omega) Bp Bf n₀ p f Ab As cb cs hlb w hn0 hBp Zu hp0 hp1 hf hA))
  (fun h k=>⟨h.1.trans k.1,k.2.trans h.2⟩)
  (fun W l o o' hl ho hc hw=>⟨belowK_b hn0 W l o o' hl ho hc hw,((aj w.heap.size W).grown (grownBy_putObj' W l o') (by have:=(gX.1 ho).1;omega) (fun k e=>by cases e;exact hl)).cell (p:=⟨Bf,0,none⟩) Zu⟩)
  (aj _ _) (fun _=>rfl) I Ix hI hIx h0
  (fun x a' _=>a'={tmps:=(a.tmps.setIfInBounds q (.int .i64 ((x.1:Nat):Int))).setIfInBounds sb (.int .i64 ((x.1:Nat):Int)),defers:=[]})
  (fun x a' _ X Y row hs hg' hr=>hs)
  (fun l pre x W K Xq hK=>?_) (fun l pre x a' W hl hr Xq hAx hlt=>?_) (fun xs W hS Xq=>?_) (fun c pre W hS Xq=>?_)
 ·have hz:Array.foldl (fun t (x:Nat×Value)=>match x with|(p,v)=>t.setIfInBounds p v) a.tmps (#[q].zip #[Value.int .i64 ((x.1:Nat):Int)])=a.tmps.setIfInBounds q (.int .i64 ((x.1:Nat):Int)):=by simp
  rw [hz];exact hassign l x W K (hK _ _ (KeepsFrom.refl _ _) ⟨aj _ _,rfl⟩ Xq rfl)
 ·subst hAx;exact hbody l pre x W Xq
 ·subst hS;exact hdone W Xq
 ·obtain ⟨k,hk,rfl⟩:=hS;exact hstop c k W hk Xq
end Wh
namespace Wh
open Go Go.RowKit Go.Shelf Go.Proofs Tryz
attribute [local go_sem] au
theorem jcU (w:World) (v vs:Value) (p:Plan) (s:State) (b g:Nat) (hp:fZ w w.heap.size v p) (hv:fE w w.heap.size vs s) (hs:iI p s) (hb:b<p.aH.length) (hg:g<p.sizes.length):
  Calls prog 104 #[v,vs,.int .i64 b,.int .i64 g] w fun e w'=>e=.returned (.tuple #[.int .i64 ((p.bin b).high - (cell s.on b g+coming s b g)),.bool (decide (cell s.on b g+coming s b g<(p.bin b).low))])∧Below w.heap.size w w':=by
 have hsn:=Lib.hid hs;have hbo:b<s.on.length:=by rw [hs.ku];exact hb
 have hgl:g<(rowAt s.on b).length:=by rw [hs.rowLen hb];exact hg
 have hbi:(b:Int)<(s.on.length:Int):=by omega
 have hbp:(b:Int)<(p.aH.length:Int):=by omega
 have hgi:(g:Int)<((rowAt s.on b).length:Int):=by omega
 have t1:=hs.cell hb hg;have t2:=nN hs b g;have t3:0≤(p.bin b).high∧(p.bin b).high≤200:=(Aq hs.plan hb).2.2;have hw1:IntKind.i64.wrap (cell s.on b g+coming s b g)=cell s.on b g+coming s b g:=bf _ (by omega)
 have hw2:IntKind.i64.wrap ((p.bin b).high - (cell s.on b g+coming s b g))=(p.bin b).high - (cell s.on b g+coming s b g):=bf _ (by omega)
 clear hs;obtain ⟨Ab,cb,As,cs,rfl,hP',hBn,hSz,hlb,hls⟩:=kN hp;obtain ⟨A0,c0,A1,c1,A2,c2,A3,c3,A4,c4,A5,c5,A6,c6,rfl,hV,hN,hO,hH,hM,hI,hU,hX,hl0,hl1,hl2,hl3,hl4,hl5,CW⟩:=iG hv;go_enter func104,ntmps104
 go_wp2_with fail;obtain ⟨W0,hW0,hb0,hsz0,hsz1,hsE,hK⟩:=uS w p s Ab cb As cs A0 c0 A1 c1 A2 c2 A3 c3 A4 c4 A5 c5 A6 c6;rw [hW0];clear hW0;obtain ⟨⟨y0,y1⟩,x0,x1,x2,x3,x4,x5,x6,aV,aW⟩:=hK.out W0 (aj W0.heap.size W0);obtain ⟨Ar,cr,YF,N8,Ux,hrow⟩:=(hN.out W0 hb0).row hbo;obtain ⟨YE,lr1,KP⟩:=hrow.at_.int hgl;change W0.cell? _=some (.int .i64 (cell s.on b g)) at KP
 have q1:=fun o d os=>aG (w:=W0) (b:=w.heap.size+1) aV o d os
 have q2:=fun o d os=>aG (w:=W0) (b:=dD A0) N8 o d os
 have q3:=fun o d os=>aG (w:=W0) (b:=dD Ar) lr1 o d os
 have hV2:=Lib.hid (fun d os=>hV.out _ (hb0.trans ((dZ W0 d os).mono hb0.size)))
 go_wp2_with fail;refine aJ (by kernel_rfl) (by kernel_rfl) ?_
 repeat (go_big_quiet_step ((go_at_call 94;refine bD (OX _ _ p s b g (hV2.out _ _) hsn.out))))
 refine wpQuiet_nil ?_
 intro W1 hw';have hb1:=aI hw';clear hw';clear q1 q2 q3 hV2 YF N8 Ux hrow YE lr1 KP;clear y0 y1 x0 x1 x2 x3 x4 x5 x6 aV aW;have hB1:=hb0.trans (hb1.mono hb0.size);obtain ⟨⟨y0,y1⟩,x0,x1,x2,x3,x4,x5,x6,aV,aW⟩:=hK.out W1 (hb1);obtain ⟨ob,lb,e0,e1,e2,e3⟩:=(hBn.out W1 hB1).at_.bin hb;change W1.cell? _=some (.int .i64 (p.bin b).low) at e2
 change W1.cell? _=some (.int .i64 (p.bin b).high) at e3
 clear e0 e1;go_wp2_with fail;go_quiet (fail)
 have hBd:=below_drewN hB1 nq;go_wp2_with fail;exact jS (v:=.tuple #[.int .i64 ((p.bin b).high - (cell s.on b g+coming s b g)),.bool (decide (cell s.on b g+coming s b g<(p.bin b).low))]) (by simp [results,results104,go_sem]) rfl ⟨rfl,hBd⟩
end Wh
namespace Wh
open Go Go.RowKit Go.Shelf Go.Proofs Tryz
attribute [local go_sem] au dQ dI dX
theorem aO.onCells {w:World} {base:Nat} {V:SV} {s:State} (h:aO w base V s) {b g:Nat} (hb:b<s.on.length) (hg:g<(rowAt s.on b).length) {zS n c:Nat} (hv:V.on=.slice (some ⟨zS,0,none⟩) n c):
  ∃ gr cr,zS<w.heap.size∧gr<w.heap.size∧w.cell? ⟨zS,b,none⟩=some (.slice (some ⟨gr,0,none⟩) (rowAt s.on b).length cr)∧w.cell? ⟨gr,g,none⟩=some (.int .i64 (cell s.on b g)):=by
 obtain ⟨go,co,Ju,gr,cr,cur,e0,_,h0,r0,_,_,h1,rc⟩:=h.Jr hb hg;rw [hv] at e0
 injection e0 with e0
 injection e0 with e0
 injection e0 with e0
 subst e0;exact ⟨gr,cr,h0.lt,h1.lt,r0,rc⟩
theorem mW.on {p:Plan} {s t:State} (h:mW p s t):t.on=s.on:=by rw [h.rest]
theorem jep {x z N:Int} (h: -N≤x∧x≤N): -N≤x.tdiv z∧x.tdiv z≤N:=by
 have h1:(x.tdiv z).natAbs≤x.natAbs:=by rw [Int.natAbs_tdiv];exact Nat.div_le_self _ _
 omega
theorem U3 {p:Plan} {t:State} {b g:Nat} (hs:iI p t) (hb:b<p.aH.length):wrap64 ((free p t b).tdiv (aC p.sizes g))=(free p t b).tdiv (aC p.sizes g):=by
 have h1:=MN hs (b:=b) ⟨by omega,by omega⟩ (aA p.sizes.length)
 rw [RP] at h1
 have h2:=jep (x:=free p t b) (z:=aC p.sizes g) (N:=60000) (by omega)
 exact IntWalk.wrap64_in _ (by omega)
theorem ZH (p:Plan) (t:State) (b g f:Nat):(if (free p t b).tdiv (aC p.sizes g)<if fC t f g<(p.bin b).high - cell t.on b g - coming t b g then fC t f g else (p.bin b).high - cell t.on b g - coming t b g then (free p t b).tdiv (aC p.sizes g)
  else if fC t f g<(p.bin b).high - cell t.on b g - coming t b g then fC t f g else (p.bin b).high - cell t.on b g - coming t b g)=zC p t b g f:=by
 unfold zC;generalize (free p t b).tdiv (aC p.sizes g)=x;generalize fC t f g=y;generalize (p.bin b).high - cell t.on b g - coming t b g=z;rw [Int.min_def,Int.min_def];split<;>split<;>split<;>(try split)<;>omega
theorem jhN (w:World) (v vs:Value) (p:Plan) (s:State) (hp:fZ w w.heap.size v p) (hv:fE w w.heap.size vs s):
  Calls prog 56 #[v,vs] w (gU (fill p s) w):=by
 obtain ⟨Ab,cb,As,cs,rfl,hP',hBn,hSz,hlb,hls⟩:=kN hp;obtain ⟨A0,c0,A1,c1,A2,c2,A3,c3,A4,c4,A5,c5,A6,c6,rfl,hV,hN,hO,hH,hM,hI,hU,hX,hl0,hl1,hl2,hl3,hl4,hl5,CW⟩:=iG hv;go_enter func56,ntmps56
 go_wp2_with fail;obtain ⟨W0,hW0,hb0,hsz0,hsz1,hsE,hK,hR⟩:=oH w p s Ab cb As cs A0 c0 A1 c1 A2 c2 A3 c3 A4 c4 A5 c5 A6 c6;rw [hW0];clear hW0;obtain ⟨⟨y0,y1⟩,x0,x1,x2,x3,x4,x5,x6,aV,aW⟩:=hK.out W0 (aj W0.heap.size W0);go_wp2_with fail;clear y0 y1 x0 x1 x2 x3 x4 x5 x6 aV aW;refine (qw _ _ _ p s (hP'.out _ hb0) (hV.out _ hb0)).mono ?_
 rintro e W1 ⟨rfl,h1⟩;have hB1:=hb0.trans (h1.mono hb0.size);obtain ⟨⟨y0,y1⟩,x0,x1,x2,x3,x4,x5,x6,aV,aW⟩:=hK.out W1 (h1);by_cases hc:checkState p s=0
 ·have hc':=Lib.hid hc;have hsn:=Lib.hid (dV.1 hc).1;have hfin:=Lib.hid (jcV hc);rw [hc];clear hc;have hcnt:=hsn.out.counts;go_wp2_with fail;clear y0 y1 x0 x1 x2 x3 x4 x5 x6 aV aW;refine (vS _ _ p s (hV.out _ hB1) hsn.out).mono ?_
  rintro e W5 ⟨_,rfl,⟨V5,rfl,qK⟩,h5⟩;obtain ⟨zS,con,_,_,_,_,Ip,_⟩:=qK.Jr (b:=0) (g:=0) (by rw [hsn.out.ku];omega) (by rw [hsn.out.rowLen (by omega)];omega)
  obtain ⟨k0,k1,k2,k3,k4,k5,k6,k7,k8⟩:=V5;obtain rfl:k0=.slice (some ⟨zS,0,none⟩) s.on.length con:=Ip;have jc:=(qK).one;have nK:=pV (W5);go_wp2_with (refine aK (.tmp 7) (.tmp 20) aP (⟨.slice (some ⟨zS,0,none⟩) s.on.length con,k1,k2,k3,k4,k5,k6,k7,k8⟩:SV) rfl nK rfl jc (fun w6 fH zO=>?_);refine aU ?_)
  unfold Hid;have jO:=jK zO;have lQ:=fH.lt;clear jc nK zO;have hx6:=Lib.hid (Bx.of fH (qK.below jO));have h06:=h1.trans ((h5.trans (jO.mono h5.size)).mono h1.size);have hle:w.heap.size≤W1.heap.size:=hB1.size;have hle0:W0.heap.size≤W1.heap.size:=h1.size;have qp:W1.heap.size≤W5.heap.size:=h5.size;clear fH qK jO h5 lQ h1 hB1;generalize W1.heap.size=base at hx6 hle hle0 qp
  generalize W5.heap.size=bx at hx6 qp ⊢
  go_wp2_with fail;go_loopw [8,9,10,11] (fun b' _ _ _ wr=>∃ (b:Nat) (u:Value),b≤p.aH.length∧b'=.int .i64 b∧Bx wr base bx 31 [] ⟨.slice (some ⟨zS,0,none⟩) s.on.length con,k1,k2,u,k4,k5,k6,k7,k8⟩ (fb p s b)∧Below W0.heap.size W0 wr) (fun b' _ _ _ _=>p.aH.length - (intOf b').toNat)
  case atStart=>exact ⟨0,k3,aT _,rfl,hx6.out,h06⟩
  case round=>
   clear hx6 h06;obtain ⟨b,u,hb,rfl,hx,h0⟩:=hrel;have hx':=Lib.hid hx;clear hx;have hB0:=hb0.trans (h0.mono hb0.size);obtain ⟨⟨y0,y1⟩,x0,x1,x2,x3,x4,x5,x6,aV,aW⟩:=hK.out wr (h0);by_cases hb1:b<p.aH.length
   ·have hbi:(b:Int)<(p.aH.length:Int):=by omega
    go_wp2_with fail;clear y0 y1 x0 x1 x2 x3 x4 x5 x6 aV aW;have h0':=h0;clear h0 hB0;go_loopw [9,10,11] (fun g' _ _ wr=>∃ (g:Nat) (u:Value),g≤p.sizes.length∧((p.bin b).front=false→g=0)∧g'=.int .i64 g∧Bx wr base bx 31 [] ⟨.slice (some ⟨zS,0,none⟩) s.on.length con,k1,k2,u,k4,k5,k6,k7,k8⟩ (fg p s b g)∧Below W0.heap.size W0 wr) (fun g' _ _ _=>p.sizes.length - (intOf g').toNat)
    case atStart=>exact ⟨0,u,aT _,fun _=>rfl,rfl,hx'.out,h0'⟩
    case round=>
     clear hx' h0' u;obtain ⟨g,u,hg,hfg,rfl,hx,h0⟩:=hrel;have hx':=Lib.hid hx;clear hx;have hB0:=hb0.trans (h0.mono hb0.size);obtain ⟨⟨y0,y1⟩,x0,x1,x2,x3,x4,x5,x6,aV,aW⟩:=hK.out wr (h0);obtain ⟨ob,lb,e0,e1,e2,e3⟩:=(hBn.out wr hB0).at_.bin hb1;change wr.cell? _=some (.bool (p.bin b).front) at e0
     change wr.cell? _=some (.int .i64 (p.bin b).low) at e2
     change wr.cell? _=some (.int .i64 (p.bin b).high) at e3
     by_cases hg1:g<p.sizes.length
     ·have hgi:(g:Int)<(p.sizes.length:Int):=by omega
      cases hfr:(p.bin b).front
      ·rw [hfr] at e0
       have hz:=hfg hfr;have hx2:=Lib.hid (show Bx wr base bx 31 [] ⟨.slice (some ⟨zS,0,none⟩) s.on.length con,k1,k2,u,k4,k5,k6,k7,k8⟩ (fb p s (b+1)) by rw [jjR hfr];rw [hz] at hx';exact hx'.out)
       clear hz hfr hfg;go_wp2_with fail;clear y0 y1 x0 x1 x2 x3 x4 x5 x6 aV aW;clear e0 e1 e2 e3;go_roundw
       case rel=>exact ⟨b+1,u,by omega,by go_num,hx2.out,h0⟩
       case measure=>simp [intOf];omega
      ·rw [hfr] at e0
       have hFl:=Lib.hid (NI hc'.out hb1 hfr g hg);have jqH:=Lib.hid hfr;have hTs:=Lib.hid hFl.out.right.sane;have hon:=Lib.hid hFl.out.on;obtain ⟨T,hT⟩:∃ T,fg p s b g=T:=⟨_,rfl⟩;have hT':=Lib.hid hT;rw [hT] at hx' hFl hTs hon
       clear hT hfr hfg;have hbo:b<T.on.length:=by rw [hTs.out.ku];exact hb1
       have hgr:g<(rowAt T.on b).length:=by rw [hTs.out.rowLen hb1];exact hg1
       have joi:(b:Int)<(s.on.length:Int):=by rw [hon.out] at hbo;omega
       have jin:(g:Int)<((rowAt T.on b).length:Int):=by omega
       obtain ⟨gr,cr,lon,lgr,r0,rc⟩:=hx'.out.own.onCells hbo hgr rfl;have lbx:=hx'.out.lt;have q1:=fun o d os=>aG (w:=wr) (b:=bx) lbx o d os
       have q2:=fun o d os=>aG (w:=wr) (b:=zS) lon o d os
       have q3:=fun o d os=>aG (w:=wr) (b:=gr) lgr o d os
       have q4:=fun o d os=>aG (w:=wr) (b:=w.heap.size) aW o d os
       have q5:=fun o d os=>aG (w:=wr) (b:=dD Ab) lb o d os
       have hV2:=Lib.hid (fun d os=>(hx'.out.own.view hTs.out).up (dZ wr d os) (dZ wr d os).size)
       obtain ⟨c0,c1,c2,c3,c4,c5,c6⟩:=hx'.out.cells;simp only at c0 c1 c2 c3 c4 c5 c6
       have v1:=hTs.out.cell hb1 hg1;have v2:=nN hTs.out b g;have hw1:IntKind.i64.wrap (cell T.on b g+coming T b g)=cell T.on b g+coming T b g:=bf _ (by omega)
       by_cases hl:cell T.on b g+coming T b g<(p.bin b).low
       ·have hld:decide ((p.bin b).low≤cell T.on b g+coming T b g)=false:=iU (by omega)
        go_wp2_with fail;refine aJ (by kernel_rfl) (by kernel_rfl) ?_
        repeat (go_big_quiet_step ((go_at_call 107;refine bD (Fe _ _ p T b g (hV2.out _ _) hTs.out))))
        refine wpQuiet_nil ?_
        intro W2 hw';have hb2:=aI hw';clear hw';have h02:=h0.trans (hb2.mono h0.size);have hx2:=Lib.hid (hx'.out.below hb2);have hlk:=Lib.hid hl;clear q1 q2 q3 q4 q5 hV2 c0 c1 c2 c3 c4 c5 c6 r0 rc hw1 hld e0 e1 e2 e3 ob lb hl lon lgr lbx hb2;clear y0 y1 x0 x1 x2 x3 x4 x5 x6 aV aW;clear h0 hB0 hx';go_wp2_with fail;go_loopw [10,11] (fun f' _ wr=>∃ (f:Nat) (u:Value),f≤p.aH.length∧f'=.int .i64 f∧Bx wr base bx 31 [] ⟨.slice (some ⟨zS,0,none⟩) s.on.length con,k1,k2,u,k4,k5,k6,k7,k8⟩ (ff p s b g f)∧Below W0.heap.size W0 wr) (fun f' _ _=>p.aH.length - (intOf f').toNat)
        case atStart=>exact ⟨0,u,aT _,rfl,by rw [jiM,hT'.out];exact hx2.out,h02⟩
        case round=>
         clear hx2 h02;obtain ⟨f,u,hf,rfl,hx,h0⟩:=hrel;have hx':=Lib.hid hx;clear hx;have hB0:=hb0.trans (h0.mono hb0.size);obtain ⟨⟨y0,y1⟩,x0,x1,x2,x3,x4,x5,x6,aV,aW⟩:=hK.out wr (h0);by_cases hf1:f<p.aH.length
         ·have hfi:(f:Int)<(p.aH.length:Int):=by omega
          obtain ⟨ob,lb,e0,_,_,_⟩:=(hBn.out wr hB0).at_.bin hf1;change wr.cell? _=some (.bool (p.bin f).front) at e0
          cases S9:(p.bin f).front
          ·rw [S9] at e0
           have jbO:=Lib.hid (U4 hc'.out hb1 jqH.out hg1 f hf);have CX:=Lib.hid jbO.out.right.sane;have jib:=Lib.hid jbO.out.on;have hnx:=Lib.hid (U5 (s:=s) (b:=b) (g:=g) S9);obtain ⟨U,hU⟩:∃ U,ff p s b g f=U:=⟨_,rfl⟩;rw [hU] at hx' jbO CX jib hnx
           clear hU S9;obtain ⟨Am,cm,hum⟩:=hx'.out.own.moves.isSlice;obtain rfl:u=.slice Am U.moves.length cm:=hum;obtain ⟨c0,c1,c2,c3,c4,c5,c6⟩:=hx'.out.cells;simp only at c0 c1 c2 c3 c4 c5 c6
           have hm8:=CX.out.lJ;by_cases h8:8≤U.moves.length
           ·have h8i:(8:Int)≤(U.moves.length:Int):=by omega
            have hx3:=Lib.hid (show Bx wr base bx 31 [] ⟨.slice (some ⟨zS,0,none⟩) s.on.length con,k1,k2,.slice Am U.moves.length cm,k4,k5,k6,k7,k8⟩ (ff p s b g (f+1)) by rw [hnx.out,KG h8];exact hx'.out)
            go_wp2_with fail;clear y0 y1 x0 x1 x2 x3 x4 x5 x6 aV aW;clear c0 c1 c2 c3 c4 c5 c6 e0;go_roundw
            case rel=>exact ⟨f+1,_,by omega,by go_num,hx3.out,h0⟩
            case measure=>simp [intOf];omega
           ·have h8i:¬ (8:Int)≤(U.moves.length:Int):=by omega
            go_wp2_with fail;clear e0 ob lb;obtain ⟨ob,lb,_,_,_,e3⟩:=(hBn.out wr hB0).at_.bin hb1;change wr.cell? _=some (.int .i64 (p.bin b).high) at e3
            obtain ⟨os,ls,rs⟩:=(hSz.out wr hB0).at_.int hg1;have hbo:b<U.on.length:=by rw [CX.out.ku];exact hb1
            have hgr:g<(rowAt U.on b).length:=by rw [CX.out.rowLen hb1];exact hg1
            have joi:(b:Int)<(s.on.length:Int):=by rw [jib.out] at hbo;omega
            have jin:(g:Int)<((rowAt U.on b).length:Int):=by omega
            obtain ⟨gr,cr,lon,lgr,r0,rc⟩:=hx'.out.own.onCells hbo hgr rfl;have lbx:=hx'.out.lt;have q1:=fun o d os=>aG (w:=wr) (b:=bx) lbx o d os
            have q2:=fun o d os=>aG (w:=wr) (b:=zS) lon o d os
            have q3:=fun o d os=>aG (w:=wr) (b:=gr) lgr o d os
            have q4:=fun o d os=>aG (w:=wr) (b:=w.heap.size) aW o d os
            have q5:=fun o d os=>aG (w:=wr) (b:=dD Ab) lb o d os
            have q6:=fun o d os=>aG (w:=wr) (b:=dD As) ls o d os
            have hV2:=Lib.hid (fun d os=>(hx'.out.own.view CX.out).up (dZ wr d os) (dZ wr d os).size)
            have hP2:=Lib.hid (fun d os=>hP'.out _ (hB0.trans ((dZ wr d os).mono hB0.size)))
            have v1:=CX.out.cell hb1 hg1;have v2:=nN CX.out b g;have v3:0≤(p.bin b).high∧(p.bin b).high≤200:=(Aq hsn.out.plan hb1).2.2;have v4:=pR hsn.out.plan hg1;have hw1:IntKind.i64.wrap ((p.bin b).high - cell U.on b g)=(p.bin b).high - cell U.on b g:=bf _ (by omega)
            have hw2:IntKind.i64.wrap ((p.bin b).high - cell U.on b g - coming U b g)=(p.bin b).high - cell U.on b g - coming U b g:=bf _ (by omega)
            have hz:(aC p.sizes g==0)=false:=Po.2 (by omega)
            have hbb:0≤(b:Int)∧(b:Int)<p.aH.length:=by omega
            have hgg:0≤(g:Int)∧(g:Int)<p.sizes.length:=by omega
            have jk4:0≤(f:Int)∧(f:Int)<p.aH.length:=by omega
            clear c3 hm8;have c3:=hx'.out.cells.2.2.2.1;simp only at c3
            refine aJ (by kernel_rfl) (by kernel_rfl) ?_
            repeat (go_big_quiet_step (first|(go_at_call 107;refine bD (Fe _ _ p U b g (hV2.out _ _) CX.out))|(go_at_call 109;refine bD (Yx _ _ p U f g (hV2.out _ _) CX.out jk4 hgg))|(go_at_call 106;refine bD (VL _ _ _ p U b (hP2.out _ _) (hV2.out _ _) CX.out hbb))))
            refine wpQuiet_nil ?_
            intro W3 hw';have hb3:=aI hw';clear hw';rw [U3 CX.out hb1,ZH];have h03:=h0.trans (hb3.mono h0.size);have hx3:=Lib.hid (hx'.out.below hb3);clear q1 q2 q3 q4 q5 q6 hV2 hP2 c0 c1 c2 c3 c4 c5 c6 r0 rc hw1 hw2 e3 ob lb os ls rs lon lgr lbx hz hb3 hbo joi jin v1 v2 v3 v4;clear y0 y1 x0 x1 x2 x3 x4 x5 x6 aV aW;clear h0 hB0 hx';by_cases hpos:0<zC p U b g f
            ·have hsm:=Lib.hid (show ff p s b g (f+1)=addMove U ⟨g,f,b,zC p U b g f⟩ by rw [hnx.out,RS h8 hpos])
             obtain ⟨N,hN⟩:∃ N,zC p U b g f=N:=⟨_,rfl⟩;rw [hN] at hsm hpos
             rw [hN];clear hN;have hmo:=Lib.hid hx3.out.own.moves;have c3:W3.cell? ⟨bx,3,none⟩=some (.slice Am U.moves.length cm):=hx3.out.cells.2.2.2.1;have lbx:=hx3.out.lt;have jqN:base≤W3.heap.size:=by omega
             go_wp2_with (refine gK _ rfl (.tmp 120) (.tmp 126) 29 48 rfl base _ 4 32 underlying29 EC rfl (by decide) (by decide) _ U.moves ⟨g,f,b,N⟩ rfl (hmo.out.alloc _) ⟨W3.heap.size,0,none⟩ 1 rfl rfl (kT _ _ _) (Ja _) (by omega) (by simp;omega) ?_;refine aU ?_)
             unfold Hid;intro v' w9 zD dh _ Ci;obtain ⟨A9,c9,JG⟩:=zD.isSlice;rw [dK,Gv] at JG
             subst JG;have hxa:=hx3.out.below ((aj _ W3).alloc (aA _) (.cells #[.int .i64 g,.int .i64 f,.int .i64 b,.int .i64 N] 48));have ng:=hxa.own.BA dh zD;have Ce:some bx≠(Value.slice Am U.moves.length cm).ownBlock:=fun he=>by
              rcases hxa.own.moves.iD hxa.kW.blk (by decide) with h|h
              ·simp only at h;rw [h] at he;cases he
              ·exact h he.symm
             have WO:=Lib.hid (hxa.kW.grown dh Ce);have Zr:=Lib.hid ng;have h09:=(h03.alloc h03.size (.cells #[.int .i64 g,.int .i64 f,.int .i64 b,.int .i64 N] 48)).trans (Ci.mono hle0);clear c3 hxa ng Ce dh zD hmo hx3 Ci h03;go_wp2_with (refine EY rfl (.tmp 128) (.tmp 127) rfl rfl A9 (U.moves.length+1) c9 (V:=⟨.slice (some ⟨zS,0,none⟩) s.on.length con,k1,k2,.slice Am U.moves.length cm,k4,k5,k6,k7,k8⟩) (V':=⟨.slice (some ⟨zS,0,none⟩) s.on.length con,k1,k2,.slice A9 (U.moves.length+1) c9,k4,k5,k6,k7,k8⟩) (s':={U with moves:=U.moves++[⟨g,f,b,N⟩]}) (cs:=[]) (b:=bx) (by rw [mJ];exact WO.out.blk) Zr.out SN rfl rfl rfl (fun w10 tJ nJ=>?_);refine aU ?_)
             unfold Hid;have h010:=h09.trans (nJ.below (B:=W0.heap.size) (fun q hq=>by omega) h09.size)
             have jQ:=Lib.hid (show Bx w10 base bx 31 [] ⟨.slice (some ⟨zS,0,none⟩) s.on.length con,k1,k2,.slice A9 (U.moves.length+1) c9,k4,k5,k6,k7,k8⟩ (ff p s b g (f+1)) by rw [hsm.out];exact tJ)
             clear tJ nJ h09 WO Zr;go_wp2_with fail;go_roundw
             case rel=>exact ⟨f+1,_,by omega,by go_num,jQ.out,h010⟩
             case measure=>simp [intOf];omega
            ·have hx4:=Lib.hid (show Bx W3 base bx 31 [] ⟨.slice (some ⟨zS,0,none⟩) s.on.length con,k1,k2,.slice Am U.moves.length cm,k4,k5,k6,k7,k8⟩ (ff p s b g (f+1)) by rw [hnx.out,RU h8 hpos];exact hx3.out)
             clear hx3;go_wp2_with fail;go_roundw
             case rel=>exact ⟨f+1,_,by omega,by go_num,hx4.out,h03⟩
             case measure=>simp [intOf];omega
          ·rw [S9] at e0
           have hx3:=Lib.hid (show Bx wr base bx 31 [] ⟨.slice (some ⟨zS,0,none⟩) s.on.length con,k1,k2,u,k4,k5,k6,k7,k8⟩ (ff p s b g (f+1)) by rw [ZI S9];exact hx'.out)
           clear S9;go_wp2_with fail;clear y0 y1 x0 x1 x2 x3 x4 x5 x6 aV aW;clear e0;go_roundw
           case rel=>exact ⟨f+1,u,by omega,by go_num,hx3.out,h0⟩
           case measure=>simp [intOf];omega
         ·obtain rfl:f=p.aH.length:=by omega
          have hx3:=Lib.hid (show Bx wr base bx 31 [] ⟨.slice (some ⟨zS,0,none⟩) s.on.length con,k1,k2,u,k4,k5,k6,k7,k8⟩ (fg p s b (g+1)) by rw [jgS (by rw [hT'.out];exact hlk.out)];exact hx'.out)
          go_wp2_with fail;clear y0 y1 x0 x1 x2 x3 x4 x5 x6 aV aW;go_roundw
          case rel=>exact ⟨g+1,u,by omega,(fun hh=>absurd hh (by decide)),by go_num,hx3.out,h0⟩
          case measure=>simp [intOf];omega
       ·have hld:decide ((p.bin b).low≤cell T.on b g+coming T b g)=true:=lg (by omega)
        have hno:=Lib.hid (show fg p s b (g+1)=T by rw [← hT'.out];exact jlD (by rw [hT'.out];exact hl))
        clear hl;go_wp2_with fail;refine aJ (by kernel_rfl) (by kernel_rfl) ?_
        repeat (go_big_quiet_step ((go_at_call 107;refine bD (Fe _ _ p T b g (hV2.out _ _) hTs.out))))
        refine wpQuiet_nil ?_
        intro W2 hw';have hb2:=aI hw';clear hw';have h02:=h0.trans (hb2.mono h0.size);have hx2:=Lib.hid (show Bx W2 base bx 31 [] ⟨.slice (some ⟨zS,0,none⟩) s.on.length con,k1,k2,u,k4,k5,k6,k7,k8⟩ (fg p s b (g+1)) by rw [hno.out];exact hx'.out.below hb2)
        clear q1 q2 q3 q4 q5 hV2 c0 c1 c2 c3 c4 c5 c6 r0 rc hw1 hld e0 e1 e2 e3 ob lb;clear y0 y1 x0 x1 x2 x3 x4 x5 x6 aV aW;go_wp2_with fail;go_roundw
        case rel=>exact ⟨g+1,u,by omega,(fun hh=>absurd hh (by decide)),by go_num,hx2.out,h02⟩
        case measure=>simp [intOf];omega
     ·obtain rfl:g=p.sizes.length:=by omega
      have hfr:(p.bin b).front=true:=by
       cases hh:(p.bin b).front
       ·have:=hfg hh;omega
       ·rfl
      have hx2:=Lib.hid (show Bx wr base bx 31 [] ⟨.slice (some ⟨zS,0,none⟩) s.on.length con,k1,k2,u,k4,k5,k6,k7,k8⟩ (fb p s (b+1)) by rw [jgT hfr];exact hx'.out)
      clear hfr hfg;go_wp2_with fail;clear y0 y1 x0 x1 x2 x3 x4 x5 x6 aV aW;clear e0 e1 e2 e3;go_roundw
      case rel=>exact ⟨b+1,u,by omega,by go_num,hx2.out,h0⟩
      case measure=>simp [intOf];omega
   ·obtain rfl:b=p.aH.length:=by omega
    have hx2:=Lib.hid (show Bx wr base bx 31 [] ⟨.slice (some ⟨zS,0,none⟩) s.on.length con,k1,k2,u,k4,k5,k6,k7,k8⟩ (Io p s) by rw [← jlE];exact hx'.out)
    clear hx';have aX:=hR.out _ h0;obtain ⟨b0,b1,b2,b3,b4,b5,b6⟩:=dN.cells hx2.out.kW;have eU:=aO.one hx2.out.own;go_wp2_with (refine aK (.tmp 4) (.tmp 129) aP (⟨.slice (some ⟨zS,0,none⟩) s.on.length con,k1,k2,u,k4,k5,k6,k7,k8⟩:SV) rfl aX rfl eU (fun w9 aN dh=>?_))
    have ng:=aO.keptBy hx2.out.own dh aX (by decide) (by decide) (by decide) (by decide) (by decide) (by decide)
    have aQ:=Below.bG hB0 dh;clear b0 b1 b2 b3 b4 b5 b6;go_wp2_with fail;exact dn results56 aN rfl rfl (wH hfin.out (ng.from_ hle) aQ)
 ·have hne:(checkState p s!=0)=true:=by simpa using hc
  have hfin:=Lib.hid (ZG hc);clear hc;have aX:=hR.out _ h1;go_wp2_with (refine aK (.tmp 4) (.tmp 17) aP aP rfl aX rfl rfl (fun w9 aN dh=>?_))
  have aQ:=Below.bG hB1 dh;go_wp2_with fail;exact dn results56 aN rfl rfl (dF hfin.out aQ)
end Wh
namespace Wh
open Go Go.RowKit Go.Shelf Go.Proofs Tryz
attribute [local go_sem] au dQ dI dX
attribute [local go_sem] Oper.semAt_some
section
variable {p:Plan} {s:State}
def Ut (p:Plan) (s:State) (pre:List (xM p true)):State:=(pre.map Subtype.val).foldl (fun t b=>(List.range p.sizes.length).foldl (jW p b) t) s
theorem Ye (pre:List (xM p true)) (x:xM p true):Ut p s (pre++[x])=(List.range p.sizes.length).foldl (jW p x.1) (Ut p s pre):=by
 unfold Ut;rw [jl,yU];rfl
theorem jcj:Ut p s (jd p true p.aH.length)=Io p s:=by
 unfold Ut;rw [J8 p true _ (aA _)];rfl
theorem jet {k:Nat} (hk:k≤p.aH.length) (h:8≤(Ut p s (jd p true k)).moves.length):Io p s=Ut p s (jd p true k):=by
 obtain ⟨r,hr⟩:=J9 p true p.aH.length k hk;rw [← jcj,hr];unfold Ut at h ⊢
 rw [jl,yU];exact TV h p _
theorem jaB (h:checkState p s=0) (pre:List (xM p true)):mW p s (Ut p s pre):=
 tX (P:=mW p s) (fun t b hb ht=>by
  obtain ⟨x,_,rfl⟩:=qO.1 hb;exact KE ht x.2.1 x.2.2) (Ik h)
def gdX (p:Plan) (b:Nat) (t:State) (g:Nat):State:=(List.range g).foldl (jW p b) t
theorem RG (b:Nat) (t:State) (g:Nat):gdX p b t (g+1)=jW p b (gdX p b t g) g:=by
 unfold gdX;rw [wL,yU];rfl
theorem Zz {b:Nat} {t:State} {g:Nat} (h:8≤(gdX p b t g).moves.length):∀ n,g≤n→gdX p b t n=gdX p b t g
 |0,hn=>by
  obtain rfl:g=0:=by omega
  rfl
 |n+1,hn=>by
  by_cases he:g=n+1
  ·rw [he]
  ·rw [RG,Zz h n (by omega),JI h]
theorem RH {t:State} {b:Nat} (h:mW p s t) (hb:b<p.aH.length) (hf:(p.bin b).front=true):∀ g,g≤p.sizes.length→mW p s (gdX p b t g)
 |0,_=>h
 |g+1,hg=>by
  rw [RG];exact Il (RH h hb hf g (by omega)) hb (by omega) hf
def Tv (p:Plan) (b g:Nat) (t:State) (pre:List (xM p false)):State:=(pre.map Subtype.val).foldl (fun t f=>zT p t b g f) t
theorem jez (b g:Nat) (t:State) (pre:List (xM p false)) (x:xM p false):Tv p b g t (pre++[x])=zT p (Tv p b g t pre) b g x.1:=by
 unfold Tv;rw [jl,yU];rfl
theorem jhC {b g:Nat} {t:State} (h:cell t.on b g+coming t b g<(p.bin b).low):jW p b t g=Tv p b g t (jd p false p.aH.length):=by
 unfold Tv jW;rw [J8 p false _ (aA _),ak h];rfl
theorem jeA {b g k:Nat} {t:State} (hk:k≤p.aH.length) (h:8≤(Tv p b g t (jd p false k)).moves.length):Tv p b g t (jd p false p.aH.length)=Tv p b g t (jd p false k):=by
 obtain ⟨r,hr⟩:=J9 p false p.aH.length k hk;rw [hr];unfold Tv at h ⊢
 rw [jl,yU];generalize (jd p false k).map Subtype.val=l at h ⊢
 generalize l.foldl (fun t f=>zT p t b g f) t=u at h ⊢
 clear hr;induction r with
 |nil=>rfl
 |cons x r ih=>
  rw [dP,jH,KG h];exact ih
theorem jaD {t:State} {b g:Nat} (h:mW p s t) (hb:b<p.aH.length) (hf:(p.bin b).front=true) (hg:g<p.sizes.length) (pre:List (xM p false)):mW p s (Tv p b g t pre):=
 tX (P:=mW p s) (fun t f hm ht=>by
  obtain ⟨x,_,rfl⟩:=qO.1 hm;exact KD ht hb hg x.2.1 hf x.2.2) h
end
def jfk (base bx:Nat) (V:Value→SV) (L:List (Nat×Obj)) (W0:World) (T:State) (W:World):Prop:=
 (∃ u,Bx W base bx 31 [] (V u) T)∧iR L W∧Below W0.heap.size W0 W
theorem UU {β:Type} {base bx:Nat} {V:Value→SV} {L:List (Nat×Obj)} {W0:World} (T:β→State) {B:Nat} (hL:∀ x∈L,x.1<B) (hB:W0.heap.size≤B):OwnFrom B (fun s W=>jfk base bx V L W0 (T s) W):=
 fun s X Y row hs hg hr=>by
  obtain ⟨⟨u,h1⟩,h2,h3⟩:=hs;exact ⟨⟨u,h1.lU hg fun r e=>(hr r e).2⟩,iR.from_ hL s X Y row h2 hg hr,h3.grown hg h3.size (fun k hk=>by have:=(hr k hk).1;omega)⟩
theorem iR.below {L:List (Nat×Obj)} {W W':World} (h:iR L W) (hb:Below W.heap.size W W'):iR L W':=fun x hx=>(hb.block x.1 (h.lt x hx)).trans (h x hx)
theorem KeepsFrom.weak {B B':Nat} {W W':World} (h:KeepsFrom B W W') (hB:B≤B'):KeepsFrom B' W W':=⟨h.size,fun k o hk ho hc=>h.same k o (bJ hB hk) ho hc⟩
structure uT (L:List (Nat×Obj)) (base B7:Nat) (Wo W:World):Prop where
 held:iR L W
 b:Below base Wo W
 k:KeepsFrom B7 Wo W
namespace uT
variable {L:List (Nat×Obj)} {base B7:Nat} {Wo W W':World}
theorem refl (h:iR L W):uT L base B7 W W:=⟨h,aj _ _,KeepsFrom.refl _ _⟩
theorem trans {L':List (Nat×Obj)} (h:uT L base B7 Wo W) (h':uT L' base B7 W W'):uT L' base B7 Wo W':=⟨h'.held,h.b.trans h'.b,h.k.trans h'.k⟩
theorem below (h:uT L base B7 Wo W) (hn:base≤Wo.heap.size) (hb:Below W.heap.size W W'):uT L base B7 Wo W':=⟨h.held.below hb,h.b.trans (hb.mono (bJ hn h.k.size)),h.k.trans (sO hb)⟩
theorem grown (h:uT L base B7 Wo W) (hn:base≤Wo.heap.size) {row:Option Nat} (hg:W.grownBy W' row) (hr:∀ r,row=some r→base≤r∧(∃ cs t sp,W.heap[r]?=some (.cells cs t sp))∧∀ x∈L,x.1≠r):uT L base B7 Wo W':=
 ⟨h.held.grown hg fun x hx he=>(hr _ he.symm).2.2 x hx rfl,h.b.trans ((aj _ _).grown hg (bJ hn h.k.size) fun r e=>(hr r e).1),h.k.trans (zq hg fun r e=>(hr r e).2.1)⟩
theorem step (h:uT L base B7 Wo W) (hn:base≤Wo.heap.size) {b:Nat} (hs:Step (·=b) W W') (hb:base≤b) (hc:∃ cs t sp,W.heap[b]?=some (.cells cs t sp)) (hL:∀ x∈L,x.1≠b):uT L base B7 Wo W':=by
 refine ⟨fun x hx=>hs.heap (h.held x hx) (hL x hx),h.b.trans (hs.below (fun q hq=>by omega) (bJ hn h.k.size)),h.k.trans ⟨hs.size,fun k o _ hk ho=>hs.heap hk fun he=>?_⟩⟩
 subst he;obtain ⟨cs,t,sp,hc⟩:=hc;rw [hc] at hk
 injection hk with hk
 subst hk;cases ho
theorem own {β:Type} {B:Nat} (hL:∀ x∈L,x.1<B) (hn:base≤Wo.heap.size) (hB:Wo.heap.size≤B):OwnFrom B (fun (_:β) W=>uT L base B7 Wo W):=fun s X Y row hs hg hr=>
 ⟨iR.from_ hL s X Y row hs.held hg hr,ownFrom_below hn (bJ hn hB) s X Y row hs.b hg hr,ownFrom_keepsFrom hB s X Y row hs.k hg hr⟩
end uT
def jfj (base bx:Nat) (V:Value→SV) (L:List (Nat×Obj)) (B7:Nat) (Wo:World) (T:State) (W:World):Prop:=
 (∃ u,Bx W base bx 31 [] (V u) T)∧uT L base B7 Wo W
theorem UR {β:Type} {base bx B7:Nat} {V:Value→SV} {L:List (Nat×Obj)} {Wo:World} (T:β→State) {B:Nat} (hL:∀ x∈L,x.1<B) (hn:base≤Wo.heap.size) (hB:Wo.heap.size≤B):OwnFrom B (fun s W=>jfj base bx V L B7 Wo (T s) W):=
 fun s X Y row hs hg hr=>by
  obtain ⟨⟨u,h1⟩,h2⟩:=hs;exact ⟨⟨u,h1.lU hg fun r e=>(hr r e).2⟩,uT.own hL hn hB s X Y row h2 hg hr⟩
theorem Ti {P:Program} (w:World) {F:Fence} {n:Nat} {α:Type} {enc:α→List Value} {ops:Array Oper} {rest:List Oper} {o:Oper} {a:Act} {Q:Exit→Act→World→Prop} (hgd:o.guard=none) (s x:Operand) (t e:TypeId)
  (ho:o.op=.call {callee:=.builtin .append,args:=#[s,x],argTypes:=#[t,t]}) (base:Nat) (z:Value) (size bytes:Nat) (ht:P.underlying t=some (.slice e)) (hi:Elem P e z size bytes)
  (hzs:z.cells.size=size) (hsz:0<size) (hby:bytes≤64) (v:Value) (l:List α) (y:α) (hs:a.eval s=v) (hown:Own enc size e w base v l)
  (ad:Addr) (c:Nat) (hx:a.eval x=.slice (some ad) 1 c) (hl:(enc y).length=size) (hnews:∀ j u,(enc y)[j]?=some u→w.cell? (ad.add j)=some u) (h1:∀ u∈enc y,u.oneCell'=true)
  (hn:l.length≤1000000) (hbase:base≤w.heap.size)
  (h:∀ v' w',Own enc size e w' base v' (l++[y])→w.grownBy w' v.ownBlock→Below base w w'→wpListIn F n P ops Q rest (a.put o.dst v') w'):
  wpListIn F n P ops Q (o::rest) a w:=by
 obtain ⟨i,hi,hz,hsize,hbytes⟩:=hi;have hb:(l.length+1)*bytes≤140737488355328:=bJ (Gp (show l.length+1≤1000001 by omega) hby) (by decide)
 refine wpListIn_append_own w hgd s x t ho base e i z size bytes ht hi hz hsize hbytes hzs hsz v l.length _ hs hown ad 1 c (enc y) hx (by rw [hl,Px]) hnews h1 (by unfold maxLen;omega) hb hbase ?_
 intro v' w' h2 h3 _;refine h v' w' ?_ h3 ((aj _ _).grown h3 hbase fun k hk=>(yO hown k hk).1)
 unfold Own;rw [dK,lD];simpa using h2
end Wh
