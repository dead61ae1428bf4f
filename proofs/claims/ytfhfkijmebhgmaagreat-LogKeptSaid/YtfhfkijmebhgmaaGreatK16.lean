/- Texts of the claim, joined. -/
import Derived.RangeFuncNested
import Derived.RangeFuncBox
import Derived.RangeFuncLeaves
import Derived.RangeFuncCalls
import Derived.Shelf.Abstract
import Derived.OwnWalkIn
import Derived.TacticsInMore
import Derived.LoopNIn
import Derived.LoopIn
import Derived.Maps.AppendAt
import Derived.Laws.Tables
import Derived.StillTailTactics
import Derived.Test.YtfhfkijmebhgmaaGreatK15
import Derived.Test.YtfhfkijmebhgmaaGreatK03
set_option maxHeartbeats 20000000
set_option maxRecDepth 100000
namespace Wh
open Go Go.RowKit Go.Shelf Go.Proofs Tryz
attribute [local go_sem] aT
attribute [local go_sem] Oper.semAt_some
def KpB(n₀ Bf:Nat)(W W':World):Prop:=Below n₀ W W'/\W'.cell? ⟨Bf,0,none⟩=W.cell? ⟨Bf,0,none⟩
theorem jjO(F:Fence)(n:Nat)(h7:F.fn 156)(hro:F.round=none)(hn:1<=n)(l Bp Bf n₀:Nat)(p:dA)(f:Bool)(Ab As:Option Addr)(cb cs:Nat)(hlb:p.bQ.length<=6)(J Jx:List Nat->World->Prop)
  (hY:∀(pre:List Nat) (x:Nat) W,J pre W->pre.length<p.bQ.length->YieldAt F (n - 1) prog l #[.int .i64 ((x:Nat):Int)] W λe W'=>
   (e=.returned (.bool true)/\J (pre++[x]) W'/\KpB n₀ Bf W W')\/(e=.returned (.bool false)/\Jx (pre++[x]) W'))
  (W:World) (hn0:n₀<=W.heap.size) (hJ:AbidesFrom W.heap.size J) (hBf:Bf<W.heap.size) (hp0:W.cell? ⟨Bp,0,none⟩=some (.slice Ab p.bQ.length cb)) (_:W.cell? ⟨Bp,1,none⟩=some (.slice As p.aP.length cs))
  (hf:W.cell? ⟨Bf,0,none⟩=some (.bool f)) (hA:At W n₀ Ab (p.bQ.flatMap PG)) (h0:J [] W):
  CallsIn F n prog 156 #[.func (.yield l) #[] #[],.pointer (some ⟨Bp,0,none⟩),.pointer (some ⟨Bf,0,none⟩)] W λe W'=>(∃v,e=.returned v)/\
   ((∃ys,ys=EP p f/\J ys W')\/(∃pre,(∃k,k<=p.bQ.length/\pre=uT p f k)/\Jx pre W')):=by
 refine qQ func156 rfl h7 ?_ hro
 simp only[ntmps156,jP,dw,dY,Nat.reduceAdd,Nat.reduceSub,jG,jF,kF,jO,iy,jK];gi_wp2
 gi_loopw [9] (λi wr=>∃k:Nat,k<=p.bQ.length/\i=.int .i64 k/\J (uT p f k) wr/\KpB n₀ Bf W wr)
  (λi _=>p.bQ.length - (RowKit.intOf i).toNat)
 case atStart=>exact⟨0,aK _,rfl,h0,aj _ _,rfl⟩
 case round=>
  obtain⟨k,hk,rfl,hJs,hnx,hnf⟩:=hrel;by_cases hlt:k<p.bQ.length
  ·obtain⟨hok,LG,b0,b1,b2,b3⟩:=(hA.up hnx (au _)).bin hlt;have g0:=hnf.trans hf;have hBw:Bf<wr.heap.size:=by have:=hnx.size;omega
   have hJa:=hJ _ _ _ none hJs (oJ wr (.cells #[.bool (l9 p.bQ k).front,.int .i64 (l9 p.bQ k).room,.int .i64 (l9 p.bQ k).low,.int .i64 (l9 p.bQ k).high] 125) none) (λr h=>by cases h)
   have hBa:Below n₀ wr (wr.alloc (.cells #[.bool (l9 p.bQ k).front,.int .i64 (l9 p.bQ k).room,.int .i64 (l9 p.bQ k).low,.int .i64 (l9 p.bQ k).high] 125)):=(aj _ _).alloc (by have:=hnx.size;omega) _
   have hca:(wr.alloc (.cells #[.bool (l9 p.bQ k).front,.int .i64 (l9 p.bQ k).room,.int .i64 (l9 p.bQ k).low,.int .i64 (l9 p.bQ k).high] 125)).cell? ⟨Bf,0,none⟩=wr.cell? ⟨Bf,0,none⟩:=
    ((aj wr.heap.size wr).alloc (au _) _).cell (p:=⟨Bf,0,none⟩) hBw
   cases hfr:((l9 p.bQ k).front==f)
   ·have hno:=Gi (p:=p) (f:=f) (k:=k) (by simpa using hfr)
    gi_wp2
    refine⟨λ_ h=>(by cases h),?_⟩
    gi_wp2
    go_roundw
    case rel=>exact⟨k+1,by omega,by simp,by rw[hno];exact hJa,hnx.trans hBa,hca.trans hnf⟩
    case measure=>simp[RowKit.intOf];omega
   ·have hyes:=EO (p:=p) (f:=f) (k:=k) (by simpa using hfr)
    obtain⟨fn,tmps,assign,body,hy,hR⟩:=hY _ k _ hJa (by have:=C9 p f k;omega)
    gi_wp2
    refine hR.mono ?_
    rintro e W3 (⟨rfl,hJ3,hk3⟩|⟨rfl,hJx3⟩)
    ·gi_wp2
     go_roundw
     case rel=>exact⟨k+1,by omega,by simp,by rw[hyes];exact hJ3,(hnx.trans hBa).trans hk3.1,(hk3.2.trans hca).trans hnf⟩
     case measure=>simp[RowKit.intOf];omega
    ·gi_wp2
     refine fD (xk rfl _ _ _) rfl ?_
     exact⟨⟨_,rfl⟩,.inr ⟨_,⟨k+1,by omega,hyes.symm⟩,hJx3⟩⟩
  ·obtain rfl:k=p.bQ.length:=by omega
   gi_wp2
   go_end0
   exact⟨⟨_,rfl⟩,.inl ⟨_,rfl,hJs⟩⟩
theorem U1(F:Fence)(n:Nat)(h:F.fn 103)(hro:F.round=none)(v0 v1:Value)(f:Bool)(w:World):
  CallsIn F n prog 103 #[.agg #[v0,v1],.bool f] w λe w'=>e=.returned (.func (.func 156) #[] #[.pointer (some ⟨w.heap.size,0,none⟩),.pointer (some ⟨w.heap.size+1,0,none⟩)])/\
   w'=(w.alloc (.cells #[v0,v1] 25)).alloc (.cells #[.bool f] 4):=by
 refine qQ func103 rfl h ?_ hro
 simp only[ntmps103,jP,dw,dY,Nat.reduceAdd,Nat.reduceSub,jG,jF,kF,jO,iy,jK];gi_wp2
 go_ret
 exact⟨rfl,rfl⟩
theorem jeG(F:Fence)(n:Nat)(h7:F.fn 156)(hro:F.round=none)(hn:1<=n)(Bp Bf n₀:Nat)(p:dA)(f:Bool)(Ab As:Option Addr)(cb cs:Nat)(hlb:p.bQ.length<=6)(w:World)(hn0:n₀<=w.heap.size)(hBp:Bp<w.heap.size)(hBf:Bf<w.heap.size)
  (hp0:w.cell? ⟨Bp,0,none⟩=some (.slice Ab p.bQ.length cb)) (hp1:w.cell? ⟨Bp,1,none⟩=some (.slice As p.aP.length cs)) (hf:w.cell? ⟨Bf,0,none⟩=some (.bool f)) (hA:At w n₀ Ab (p.bQ.flatMap PG)):
  SeqStopsK F n prog 156 #[.pointer (some ⟨Bp,0,none⟩),.pointer (some ⟨Bf,0,none⟩)] (λx:Nat=>#[Value.int .i64 ((x:Nat):Int)]) (KpB n₀ Bf) (λys=>ys=EP p f) (λpre=>∃k,k<=p.bQ.length/\pre=uT p f k) p.bQ.length w:=λl J Jx W hW hJ _ hY h0=>
 jjO F n h7 hro hn l Bp Bf n₀ p f Ab As cb cs hlb J Jx hY W (aY hn0 hW.size) hJ (aI hBf hW.size) ((hW.cell (p:=⟨Bp,0,none⟩) hBp).trans hp0) ((hW.cell (p:=⟨Bp,1,none⟩) hBp).trans hp1)
  ((hW.cell (p:=⟨Bf,0,none⟩) hBf).trans hf) (hA.up (hW.mono hn0) (au _)) h0
end Wh
namespace Wh
open Go Go.RowKit Go.Shelf Go.Proofs Tryz
attribute [local go_sem] aT
attribute [local go_sem] Oper.semAt_some
def pU(L:List (Nat×Obj))(W:World):Prop:=∀x∈L,W.heap[x.1]?=some x.2
theorem pU.lt{L:List (Nat×Obj)}{W:World}(h:pU L W):∀x∈L,x.1<W.heap.size:=λx hx=>(bJ.1 (h x hx)).1
theorem pU.grown{L:List (Nat×Obj)}{W W':World}{row:Option Nat}(h:pU L W)(hg:W.grownBy W' row)(hne:∀x∈L,some x.1≠row):pU L W':=λx hx=>(hg.block x.1 (h.lt x hx) (hne x hx)).trans (h x hx)
theorem pU.alloc{L:List (Nat×Obj)}{W:World}(h:pU L W)(o:Obj):pU L (W.alloc o):=h.grown (oJ W o none) (λ_ _ e=>by cases e)
theorem pU.setCell{L:List (Nat×Obj)}{W:World}(h:pU L W)(B:Nat)(u:Value)(hne:∀x∈L,x.1≠B):pU L (W.setCell ⟨B,0,none⟩ u):=h.grown (grownBy_setCell' W B u) (λx hx e=>hne x hx (by cases e;rfl))
theorem pU.not_row{L:List (Nat×Obj)}{W:World}{e:TypeId}(h:pU L W)(ht:∀x∈L,∀cs sp,x.2≠.cells cs e sp){aO size k:Nat}{v:Value}{xs:List Value}(hr:W.ownsRow aO e size v k xs):∀x∈L,some x.1≠v.ownBlock:=by
 intro x hx;rcases hr.2 with⟨rfl,_⟩|⟨g,cap,cur,rfl,_,hgb,_⟩
 ·simp[Value.ownBlock]
 ·intro e';obtain⟨i,o⟩:=x;obtain rfl:i=g:=by simpa[Value.ownBlock]using e'
  have h1:=h _ hx;simp only at h1
  rw[hgb]at h1
  exact ht _ hx _ _ (dQ h1).symm
theorem pU.from_{β:Type}{B:Nat}{L:List (Nat×Obj)}(hB:∀x∈L,x.1<B):OwnFrom B (λ(_:β) W=>pU L W):=λ_ _ _ _ hs hg hr=>hs.grown hg (λx hx e=>by
 have:=(hr x.1 e.symm).1;have:=hB x hx;omega)
theorem Iw{W:World}{B j:Nat}{vs:Array Value}{t:TypeId}{v:Value}(h:W.heap[B]?=some (.cells vs t (0,0)))(hj:vs[j]?=some v):W.cell? ⟨B,j,none⟩=some v:=by
 simp[World.cell?,h,hj]
theorem qY{W:World}{o:Obj}{B:Nat}(h:B<W.heap.size):(W.alloc o).heap[B]?=W.heap[B]?:=wV W o B h
theorem og{W:World}{o:Obj}{B:Nat}(h:B=W.heap.size):(W.alloc o).heap[B]?=some o:=by
 subst h;exact World.alloc_heap_new W o
theorem jjE{w:World}{a:Addr}{v:Value}(h:w.cell? a=some v):a.block<w.heap.size:=by
 by_cases hlt:a.block<w.heap.size
 ·exact hlt
 ·unfold World.cell? at h
  rw[fZ (by omega)]at h
  simp at h
def jqi(n₀ Bo:Nat)(Px:List Nat)(L:List (Nat×Obj))(W0:World)(pre:List Nat)(W:World):Prop:=
 ((∃u,Boxed W Bo 23 u/\Own jJ 1 3 W n₀ u (x9 (Px++pre))/\True)/\pU L W)/\Below n₀ W0 W
theorem jeK(Q:Exit->Act->World->Prop)(ds:List Deferred)(W0:World)(Bo Bp Bf n₀:Nat)(u:Value)(Px:List Nat)(L:List (Nat×Obj))(p:dA)(f:Bool)(Ab As:Option Addr)(cb cs:Nat)(hlb:p.bQ.length<=6)(hl0:Px.length<=6)
  (t0 t1 t2 t3 t4 t6 t7 t8 t9 t10 t11 t12 t13 t14 t15 t16 t17 t18 t19 t20 t21 t23 t24 t25 t26 t27 t28 t29:Value) (hn0:n₀<=W0.heap.size) (hBo:n₀<=Bo)
  (hp0:W0.cell? ⟨Bp,0,none⟩=some (.slice Ab p.bQ.length cb)) (hp1:W0.cell? ⟨Bp,1,none⟩=some (.slice As p.aP.length cs)) (hA:At W0 n₀ Ab (p.bQ.flatMap PG))
  (E5:Boxed W0 Bo 23 u) (lC:Own jJ 1 3 W0 n₀ u (x9 Px)) (hL:pU L W0) (hLf:(Bf,Obj.cells #[.bool f] 4 (0,0))∈L) (hLt:∀x∈L,∀cs sp,x.2≠.cells cs 3 sp) (hLo:∀x∈L,x.1≠Bo)
  (Hl:∀(D:Nat) (W:World),W0.heap.size<=D->jqi n₀ Bo Px L W0 (EP p f) W->W.heap[D]?=some (.deferred (some []))->Q .normal {tmps:=#[t0,t1,t2,t3,t4,.pointer (some ⟨Bo,0,none⟩),t6,t7,t8,t9,t10,t11,t12,t13,t14,t15,t16,t17,t18,t19,t20,t21,.func (.func 156) #[] #[.pointer (some ⟨Bp,0,none⟩),.pointer (some ⟨Bf,0,none⟩)],t23,t24,t25,t26,t27,t28,t29],defers:={target:=.collected D,args:=#[]}::ds} W):
  (Code.rangeFunc (Operand.tmp 22) #[23] (Code.region 9 #[{ dst := some 8, op := Op.assign (Operand.tmp 23), type := 3, pos := "plan.go:45", after := #[], guard := none }] false)
   (Code.block 3 (Code.region 10 #[
    { dst := some 24, op := Op.load 23 (Operand.tmp 5), type := 23, pos := "plan.go:46", after := #[], guard := none },
    { dst := some 25, op := Op.move (Operand.tmp 8), type := 3, pos := "plan.go:46", after := #[], guard := none },
    { dst := some 26, op := Op.buildSlice 23 1 #[(0, Operand.tmp 25)], type := 23, pos := "plan.go:46", after := #[{ on := 1, ground := Ground.data }], guard := none },
    { dst := some 27, op := Op.call { callee := Callee.builtin Builtin.append, args := #[Operand.tmp 24, Operand.tmp 26], argTypes := #[23, 23] }, type := 23, pos := "plan.go:46", after := #[{ on := 0, ground := Ground.data }, { on := 2, ground := Ground.data }], guard := none },
    { dst := none, op := Op.store 23 (Operand.tmp 5) (Operand.tmp 27), type := 0, pos := "plan.go:46", after := #[{ on := 3, ground := Ground.data }, { on := 3, ground := Ground.chain }, { on := 0, ground := Ground.phase }, { on := 1, ground := Ground.phase }, { on := 2, ground := Ground.phase }, { on := 3, ground := Ground.phase }], guard := none }] false))).wpIn Fence.wide 5 prog Q
   {tmps:=#[t0,t1,t2,t3,t4,.pointer (some ⟨Bo,0,none⟩),t6,t7,t8,t9,t10,t11,t12,t13,t14,t15,t16,t17,t18,t19,t20,t21,.func (.func 156) #[] #[.pointer (some ⟨Bp,0,none⟩),.pointer (some ⟨Bf,0,none⟩)],t23,t24,t25,t26,t27,t28,t29],defers:=ds} W0:=by
 have bF:W0.cell? ⟨Bf,0,none⟩=some (.bool f):=Boxed.cell (hL _ hLf);have hBf:Bf<W0.heap.size:=hL.lt _ hLf;have juo:Bp<W0.heap.size:=jjE hp0;refine wpIn_rangeFunc_ownG rfl (by omega) (gf:=156) (lb:=#[.pointer (some ⟨Bp,0,none⟩),.pointer (some ⟨Bf,0,none⟩)]) rfl trivial (enters_of func156 (by kernel_rfl) rfl)
  (jeG Fence.wide (5 - 1) trivial rfl (by omega) Bp Bf n₀ p f Ab As cb cs hlb W0 hn0 juo hBf hp0 hp1 bF hA)
  (λh k=>⟨h.1.trans k.1,k.2.trans h.2⟩)
  (λW l o o' hl ho hc hw=>⟨belowK_b hn0 W l o o' hl ho hc hw,((aj W0.heap.size W).grown (grownBy_putObj' W l o') (by have:=(bJ.1 ho).1;omega) (λk e=>by cases e;exact hl)).cell (p:=⟨Bf,0,none⟩) hBf⟩)
  (aj _ _) (λ_=>rfl)
  (jqi n₀ Bo Px L W0)
  (λ_ _ _=>False)
  (OwnFrom.and (OwnFrom.and (Own.from (holdsRow_own n₀ Bo 23 3 1 (λpre=>(x9 (Px++pre)).length) (λpre=>(x9 (Px++pre)).flatMap jJ) (λ_ _=>True)) _) (pU.from_ hL.lt)) (ownFrom_below hn0 hn0))
  (λ_ _ _ _ _ hs _ _=>hs)
  ⟨⟨⟨u,E5,by simpa using lC,trivial⟩,hL⟩,aj _ _⟩
  (λx=>{tmps:=#[t0,t1,t2,t3,t4,.pointer (some ⟨Bo,0,none⟩),t6,t7,.int .i64 ((x:Nat):Int),t9,t10,t11,t12,t13,t14,t15,t16,t17,t18,t19,t20,t21,.func (.func 156) #[] #[.pointer (some ⟨Bp,0,none⟩),.pointer (some ⟨Bf,0,none⟩)],.int .i64 ((x:Nat):Int),t24,t25,t26,t27,t28,t29],defers:=[]}) ?assign ?body ?done ?stop
 case assign=>
  intro l x W K hK;gi_wp2
  exact hK
 case body=>
  rintro l pre x W ⟨⟨⟨v,hv,vS,_⟩,hH⟩,hB⟩ hlt;have hc:=hv.cell;have kD:(x9 (Px++pre)).length<=12:=by rw[CV,aZ];omega
  obtain⟨i0,hi,hz0,hz1,hz2⟩:=Iu (P:=prog) (e:=3) (z:=.int .i64 0) (size:=1) (bytes:=8) (by kernel_rfl)
  have u23:prog.underlying 23=some (.slice 3):=by kernel_rfl
  gi_wp2_with (gi_at_builtin;refine wpListIn_append_own _ rfl _ _ 23 rfl n₀ 3 i0 (.int .i64 0) 1 8 u23 hi hz0 hz1 hz2 rfl (by decide) _ _ _ rfl (Ce vS _) ⟨W.heap.size,0,none⟩ 1 1 [.int .i64 ((x:Nat):Int)] rfl rfl (cell_one_new _ _ _) (by simp[Value.oneCell']) (by unfold maxLen;omega) (by omega) (by have:=hB.size;simp;omega) ?_;intro v' w1 hown' hgrow _;obtain⟨g',cap',rfl⟩:=ownsRow_succ hown';obtain⟨hv1,hv2,hr2,hk2,hb2⟩:=hv.appended (by decide) vS (aY hn0 hB.size) hBo hown' hgrow;have hc1:=hv1.cell;have hf1:=hv1.frozen)
  have hH':=((hH.alloc _).grown hgrow (hH.not_row hLt vS)).setCell Bo (.slice (some ⟨g',0,none⟩) ((x9 (Px++pre)).length+1) cap') hLo;refine⟨hk2.from _,⟨hb2,(Boxed.cell (hH' _ hLf)).trans (Boxed.cell (hH _ hLf)).symm⟩,⟨⟨_,hv2,?_,trivial⟩,hH'⟩,hB.trans hb2⟩
  unfold Own;have e1:x9 (Px++(pre++[x]))=x9 (Px++pre)++[(x:Int)]:=by simp[x9]
  have e2:(x9 (Px++pre)++[(x:Int)]).length=(x9 (Px++pre)).length+1:=by simp
  have e3:(x9 (Px++pre)++[(x:Int)]).flatMap jJ=(x9 (Px++pre)).flatMap jJ++[.int .i64 ((x:Nat):Int)]:=by rw[gy];simp[jJ]
  rw[e1,e2,e3];exact hr2
 case done=>
  rintro D ys W hD rfl hI hK;exact Hl D W hD hI hK
 case stop=>
  rintro D c pre W _ _ h _;exact h.elim
theorem jdq(w:World)(v:Value)(p:dA)(hp:mW w w.heap.size v p):
  Calls prog 123 #[v] w λe w'=>∃u,e=.returned (.tuple #[u,.int .i64 (gQ p)])/\Own jJ 1 3 w' w.heap.size u (if gQ p=0 then x9 (way p)else [])/\Below w.heap.size w w':=by
 have hP:=hp;obtain⟨_,_,rfl,⟨Ab,cb,rfl,hlb,hb⟩,⟨As,cs,rfl,hls,hs⟩⟩:=hp;have hb0:Below w.heap.size w (w.alloc (.cells #[.slice Ab p.bQ.length cb,.slice As p.aP.length cs] 25)):=(aj _ _).alloc (au _) _;refine(iQ (n:=5)).1 ?_
 refine callsIn_of_wp_marks func123 rfl trivial ?_ rfl
 simp only[ntmps123,jP,dw,dY,Nat.reduceAdd,Nat.reduceSub,jG,jF,kF,jO,iy,jK];gi_wp2_with fail
 refine⟨trivial,(iQ.2 (OZ _ _ p (hP.grow hb0))).mono ?_⟩
 rintro e W1 ⟨rfl,hb1⟩;have hbw:=hb0.trans (hb1.mono hb0.size);obtain⟨hc1,hf1⟩:=xH hb1;have hlt1:w.heap.size<W1.heap.size:=by have:=hb1.size;simp at this;omega
 by_cases hz:gQ p=0
 ·gi_wp2
  refine wpIn_loop_rounds 3 ?_
  rw[roundsIn_succ];gi_wp2_with fail
  refine⟨trivial,(U1 Fence.wide 4 trivial rfl _ _ _ _).mono ?_⟩
  rintro e W2 ⟨rfl,rfl⟩;simp only[cO];gi_wp2_with fail
  have q0:=Boxed.new W1 23 (.slice none 0 0);have q1:=World.alloc_heap_new (W1.alloc (.cells #[.slice none 0 0] 23)) (.cells #[.bool true,.bool false] 4);refine jeK _ _ _ W1.heap.size (W1.heap.size+1+1) (W1.heap.size+1+1+1) W1.heap.size (.slice none 0 0) [] [(W1.heap.size+1+1+1,.cells #[.bool true] 4 (0,0)),(W1.heap.size+1,.cells #[.bool true,.bool false] 4 (0,0))] p true Ab As cb cs (pJ hz).2.1 (by simp) _ _ _ _ _ _ _ _ _ _ _ _ _ _ _ _ _ _ _ _ _ _ _ _ _ _ _ _ (by simp;omega) (au _) ?a0 ?a1 ?a2 ?a3 ?a4 ?a5 ?a6 ?a7 ?a8 ?a9
  case a0=>exact Iw ((qY (by simp)).trans (og (by simp))) rfl
  case a1=>exact Iw ((qY (by simp)).trans (og (by simp))) rfl
  case a2=>exact(hb.up hb0 hb0.size).up hb1 hb1.size|>.up (((((aj _ _).alloc (au _) _).alloc (by simp) _).alloc (by simp;omega) _).alloc (by simp;omega) _) (au _)
  case a3=>exact((q0.alloc _).alloc _).alloc _
  case a4=>exact Own.nil
  case a5=>
   intro x hx;simp at hx
   rcases hx with rfl|rfl
   ·exact og (by simp)
   ·exact(qY (by simp)).trans ((qY (by simp)).trans (og (by simp)))
  case a6=>simp
  case a7=>
   intro x hx cs sp e;simp at hx
   rcases hx with rfl|rfl<;>simp at e
  case a8=>
   intro x hx;simp at hx
   rcases hx with rfl|rfl
   ·show W1.heap.size+1+1+1≠W1.heap.size;omega
   ·show W1.heap.size+1≠W1.heap.size;omega
  case a9=>
   intro D W hD hI hK;obtain⟨⟨⟨u,hu,lC,_⟩,hH⟩,hB⟩:=hI;have hB1:Below W1.heap.size W1 W:=Below.trans (((((aj _ _).alloc (au _) _).alloc (by simp) _).alloc (by simp;omega) _).alloc (by simp;omega) _) hB
   have z1:W.cell? ⟨w.heap.size,0,none⟩=some (.slice Ab p.bQ.length cb):=(hB1.cell (p:=⟨w.heap.size,0,none⟩) hlt1).trans ((hc1 w.heap.size 0 (by simp)).trans (by simp))
   have z2:W.cell? ⟨w.heap.size,1,none⟩=some (.slice As p.aP.length cs):=(hB1.cell (p:=⟨w.heap.size,1,none⟩) hlt1).trans ((hc1 w.heap.size 1 (by simp)).trans (by simp))
   have g1:W.cell? ⟨W1.heap.size+1,1,none⟩=some (.bool false):=by
    have:=hH (W1.heap.size+1,.cells #[.bool true,.bool false] 4 (0,0)) (by simp)
    simp only at this
    simp[World.cell?,this]
   simp at hD
   gi_wp2
   rw[roundsIn_succ];gi_wp2_with fail
   refine⟨trivial,(U1 Fence.wide 4 trivial rfl _ _ _ _).mono ?_⟩
   rintro e W2 ⟨rfl,rfl⟩;gi_wp2_with fail
   have hWs:W1.heap.size<=W.heap.size:=hB1.size;have hDl:=(bJ.1 hK).1
   have hul:=hu.lt;refine jeK _ _ _ W1.heap.size W.heap.size (W.heap.size+1) W1.heap.size u (EP p true) [(W.heap.size+1,.cells #[.bool false] 4 (0,0)),(D,.deferred (some []))] p false Ab As cb cs (pJ hz).2.1 (aY (C9 p true p.bQ.length) (pJ hz).2.1) _ _ _ _ _ _ _ _ _ _ _ _ _ _ _ _ _ _ _ _ _ _ _ _ _ _ _ _ (by simp;omega) (au _) ?b0 ?b1 ?b2 ?b3 ?b4 ?b5 ?b6 ?b7 ?b8 ?b9
   case b0=>exact Iw ((qY (by simp)).trans (og rfl)) rfl
   case b1=>exact Iw ((qY (by simp)).trans (og rfl)) rfl
   case b2=>exact((hb.up hb0 hb0.size).up hb1 hb1.size|>.up hB1 (au _)).up (((aj _ _).alloc hWs _).alloc (by simp;omega) _) (au _)
   case b3=>exact(hu.alloc _).alloc _
   case b4=>exact(by simpa using lC:Own jJ 1 3 W W1.heap.size u (x9 (EP p true)))|>.alloc _|>.alloc _
   case b5=>
    intro x hx;simp at hx
    rcases hx with rfl|rfl
    ·exact og (by simp)
    ·exact(qY (by simp;omega)).trans ((qY hDl).trans hK)
   case b6=>simp
   case b7=>
    intro x hx cs sp e;simp at hx
    rcases hx with rfl|rfl<;>simp at e
   case b8=>
    intro x hx;simp at hx
    rcases hx with rfl|rfl
    ·show W.heap.size+1≠W1.heap.size;omega
    ·show D≠W1.heap.size;omega
   case b9=>
    intro D2 W3 hD2 hI2 hK2;obtain⟨⟨⟨u2,hu2,yh,_⟩,hH2⟩,hB2⟩:=hI2;have hKD:=hH2 (D,.deferred (some [])) (by simp)
    have hc2:=hu2.cell;simp at hD2
    gi_wp2
    rw[roundsIn_succ];gi_wp2
    have hne:D≠D2:=by omega
    have joc:(W3.putObj D2 (.deferred none)).heap[D]?=some (.deferred (some [])):=(World.putObj_heap_other hne).trans hKD;have hB3:Below W1.heap.size W1 W3:=hB1.trans ((((aj _ _).alloc hWs _).alloc (by simp;omega) _).trans hB2)
    have hB4:Below W1.heap.size W1 (W3.putObj D2 (.deferred none)):=hB3.trans (belowK_b (au _) W3 D2 _ _ (by omega) hK2 rfl rfl)
    have P6:Below W1.heap.size W1 ((W3.putObj D2 (.deferred none)).putObj D (.deferred none)):=hB4.trans (belowK_b (au _) _ D _ _ (by omega) joc rfl rfl)
    have hown5:Own jJ 1 3 ((W3.putObj D2 (.deferred none)).putObj D (.deferred none)) W1.heap.size u2 (x9 (way p)):=ownsRow_putObj (ownsRow_putObj yh _ hK2 rfl) _ joc rfl;refine⟨by simp,.inl ⟨_,_,rfl,run_takeDeferred hK2,?_⟩⟩
    refine⟨by simp,.inl ⟨_,_,rfl,run_takeDeferred joc,?_⟩⟩
    refine⟨_,by simp[results,results123,go_sem],u2,rfl,hown5.from_ hbw.size,hbw.trans (P6.mono hbw.size)⟩
 ·have hzb:(gQ p !=0)=true:=by simpa using hz
  have hzf:(gQ p==0)=false:=by simpa using hz
  gi_wp2
  refine⟨_,by simp[results,results123,go_sem],_,rfl,Own.nil,hbw⟩
end Wh
namespace Wh
open Go Go.RowKit Go.Shelf Go.Proofs Tryz
attribute [local go_sem] aT
section
variable {p:dA} {s:aJ} {o k b:Nat} {m:Int}
theorem jjU(h:lI p s)(f:Fits p s o k b m):add s.aA ⟨o,k,b,m⟩=((tZ s o k b m).aA,0):=by
 have h1:=h.sane.aA;have xB:=Jg h.sane f.ho f.hk f.hb;obtain⟨k1,k2⟩:=La h f;have hf:lH ⟨o,k,b,m⟩=true:=nI.2 ⟨xB,by have:=f.m1;simp only;omega⟩
 unfold add;rw[h1,hf,ay (by simp),ay (by simp)]
 simp only;rw[ay (by omega)]
 rfl
end
theorem ZM{l:List Nat}{j:Nat}(hj:j<l.length):bI (x9 l) j=(l[j]:Int):=by
 unfold bI x9;simp[hj]
theorem drop_at{l:List Nat}{j:Nat}(hj:j<l.length):l.drop j=l[j]::l.drop (j+1):=jE hj
theorem dK.sV{w:World}{aO:Nat}{V:SV}{s:aJ}(h:dK w aO V s){o k:Nat}(ho:o<s.ak.length)(hk:k<(s.aC o).aH.length){gl n c:Nat}(hv:V.aG o=.slice (some ⟨gl,0,none⟩) n c):gl<w.heap.size/\
  w.cell? ⟨gl,k*4,none⟩=some (.int .i64 (s.aG o k).dh)/\w.cell? ⟨gl,k*4+1,none⟩=some (.int .i64 (s.aG o k).iw)/\w.cell? ⟨gl,k*4+2,none⟩=some (.int .i64 (s.aG o k).oh)/\w.cell? ⟨gl,k*4+3,none⟩=some (.int .i64 (s.aG o k).dP):=by
 obtain⟨g',c',cur,e1,_,e3,f⟩:=h.gK ho hk;rw[hv]at e1
 injection e1 with e1
 injection e1 with e1
 injection e1 with e1
 subst e1;exact⟨e3.lt,f⟩
def jjX(p:dA)(s:aJ)(o k:Nat)(n but:Int)(w:World)(aO b:Nat)(t:TypeId)(rst:List Value)(V:SV)(e:Ending)(w':World):Prop:=
 e=.returned (.int .i64 (qL p s o k n but).2)/\∃V',V'={V with aA:=V'.aA}/\Bx w' aO b t rst V' (qL p s o k n but).1/\Step (λj=>j=b\/(V.aG o).ownBlock=some j) w w'
theorem jeH(w:World)(v:Value)(p:dA)(s:aJ)(o k:Nat)(n but:Int){aO b:Nat}{t:TypeId}{rst:List Value}{V:SV}(hp:mW w w.heap.size v p)(hr:lI p s)(hm:May s o k n)(hB:Bx w aO b t rst V s)(rV:aO<=w.heap.size):
  Calls prog 67 #[v,.pointer (some ⟨b,0,none⟩),.int .i64 o,.int .i64 k,.int .i64 n,.int .i64 but] w (jjX p s o k n but w aO b t rst V):=by
 obtain⟨Ab,cb,As,cs,rfl,hP',hBn,hSz,hlb,hls⟩:=sN hp;go_enter func67,ntmps67
 go_wp2_with fail;obtain⟨W0,hW0,hb0,lg,hK⟩:=jfv w p Ab cb As cs;rw[hW0];clear hW0;have hz:=hr.sane.plan;obtain⟨y0,y1,eU⟩:=hK.O W0 (aj _ _);go_wp2_with fail;refine(jdq _ _ p (hP'.O _ hb0)).mono ?_
 rintro e W1 ⟨uw,rfl,Wn,h1⟩;rw[hz]at Wn ⊢
 rw[aB rfl]at Wn
 obtain⟨Aw,cw,rfl⟩:=Wn.isSlice;rw[CV]at Wn ⊢
 have hBlt:=hB.lt;have X3:=hb0.trans (h1.mono hb0.size);have hB1:=ah (hB.below X3);obtain⟨gl,cl,curl,e1,hgl,Cc,f0,f1,f2,f3⟩:=hB1.O.own.gK hm.ho hm.hk;have hll:=((hB.own.aG o hm.ho).size gl (by rw[e1];rfl)).2
 obtain⟨go,co,jjB,eo,hgo,Ob,z0,z1⟩:=hB1.O.own.aU hm.ho;obtain⟨c0,c1,c2,c3,c4,c5,c6⟩:=hB1.O.cells;rw[eo]at c1
 rw[e1]at z1
 have hon:(o:Int)<(s.ak.length:Int):=by have:=hm.ho;omega
 have hkn:(k:Int)<((s.aC o).aH.length:Int):=by have:=hm.hk;omega
 have hm':=ah hm;have hr':=ah hr;have jbK:=ah Wn;have hlw:(way p).length<=6:=by rw[U8];exact hr.sane.counts.2.1
 clear hm hr Wn hB hz y0 y1 hP' hBn hSz hK;go_wp2_with fail;clear c0 c1 c2 c3 c4 c5 c6 z0 z1 f0 f1 f2 f3 hon hkn eo Ob Cc;have hl0:W0.heap.size<=W1.heap.size:=h1.size;go_loopw[36,4,17,18] (λi n' _ _ wr=>∃(j:Nat) (s':aJ) (m:Int) (V':SV),V'={V with aA:=V'.aA}/\j<=(way p).length/\i=.int .i64 j/\n'=.int .i64 m/\lI p s'/\May s' o k m/\uo o k but ((way p).drop j) s' m=qL p s o k n but/\
  Bx wr aO b t rst V' s'/\Step (λj=>j=b\/(V.aG o).ownBlock=some j) W1 wr) (λi _ _ _ _=>(way p).length - (RowKit.intOf i).toNat)
 case atStart=>exact⟨0,s,n,V,rfl,aK _,rfl,rfl,hr'.O,hm'.O,rfl,hB1.O,Step.refl _ _⟩
 case round=>
  clear hr' hm' hB1;obtain⟨j,s',m,V',hsb,hj,rfl,rfl,hr,hm,htg,hBx,hst⟩:=hrel;have hr':=ah hr;have hm':=ah hm;have jh8:=ah htg;have jel:=ah hBx;have hst':=ah hst;have hks:=ah (show ∀j,(j=b\/(V.aG o).ownBlock=some j)->j<W0.heap.size from λj h=>by
   have:=hb0.size;rcases h with rfl|h
   ·omega
   ·rw[e1]at h
    change some gl=some j at h
    injection h with h
    omega)
  by_cases hlt:j<(way p).length
  ·have hwb:=I4 p _ (bU hlt);have hwr:=jbK.O.step hst (λk hk jnD=>absurd (hks.O k jnD) (by have:=(jbK.O.size k hk).1;omega))
   obtain⟨gw,cw',juI,ew,hgw,hbw,zw⟩:=dK.BF hwr (g:=j) (by rw[CV];exact hlt)
   rw[ZM hlt]at zw
   obtain⟨wb,jdO⟩:∃x,x=(way p)[j]:=⟨_,rfl⟩;rw[<- jdO]at zw hwb
   have jh5:=ah jdO;clear jdO;obtain rfl:Aw=some ⟨gw,0,none⟩:=by injection ew
   clear ew;obtain⟨XZ,f0,f1,f2,f3⟩:=hBx.own.sV hm.ho hm.hk (show V'.aG o=_ by rw[hsb];exact e1)
   obtain⟨c0,c1,c2,c3,c4,c5,c6⟩:=hBx.cells;have q1:=λo d os=>bY (w:=wr) (b:=b) hBx.lt o d os
   have q2:=λo d os=>bY (w:=wr) (b:=gl) XZ o d os
   have hV2:=ah (λd os=>(hBx.own.view hr.sane).up (kW wr d os) (kW wr d os).size)
   have hgood:=ah (hr.sane.aG hm.ho hm.hk);have hjl:(j:Int)<((way p).length:Int):=by omega
   have hr2:=ah hr.sane;have hbb:=ah (show 0<=(wb:Int)/\(wb:Int)<p.bQ.length by omega)
   have Rz:=ah hsb;clear hr hm htg hBx hst hwr hbw hsb;go_wp2_with fail;refine dG (by kernel_rfl) (by kernel_rfl) ?_
   repeat(go_big_quiet_step ((go_at_call 80;refine gI (jlL _ _ p s' wb _ (hV2.O _ _) hr2.O hbb.O hgood.O.1))))
   refine wpQuiet_nil ?_
   intro W6 hw';have hb6:=dD hw';clear hw';generalize hmm:(if lU s' ↑wb (s'.aG o k).dh<m then lU s' ↑wb (s'.aG o k).dh else m)=mm
   have hmin:mm=min m (lU s' wb (s'.aG o k).dh):=by rw[<- hmm];split<;>omega
   have hav:=hm'.O.lU hr'.O hwb;have hmb:=hm'.O.dP;have hm0:=hm'.O.n0;have hgb:=hgood.O;have hmr:mm<=m/\m<=200/\0<=mm/\mm<=lU s' wb (s'.aG o k).dh:=by omega
   have hbr:0<=(s'.aG o k).dP/\(s'.aG o k).dP<=200:=by omega
   have NW:=ah (hst'.O.trans (.of_below hb6));have hBx6:=ah (jel.O.below hb6);have hmin':=ah hmin;have hdr:uo o k but (wb::(way p).drop (j+1)) s' m=qL p s o k n but:=by rw[jh5.O,<- drop_at hlt];exact jh8.O
   have hdr':=ah hdr;clear hmm hmin hav hmb hm0 hgb hdr q1 q2 zw f0 f1 f2 f3 c0 c1 c2 c3 c4 c5 c6 hV2;by_cases hsk:(wb:Int)=but\/mm<1
   ·have XW:=ah (show uo o k but ((way p).drop (j+1)) s' m=qL p s o k n but by rw[<- hdr'.O,zn (by rw[<- hmin'.O];exact hsk)])
    by_cases Pz:(wb:Int)=but
    ·have hq:((wb:Int)==but)=true:=by simpa using Pz
     clear hsk Pz;go_wp2_with fail;go_roundw
     case rel=>exact⟨j+1,s',m,V',Rz.O,by omega,by go_num,rfl,hr'.O,hm'.O,XW.O,hBx6.O,NW.O⟩
     case measure=>simp[RowKit.intOf];omega
    ·have hq:((wb:Int)==but)=false:=by simpa using Pz
     have hlt1:mm<1:=hsk.resolve_left Pz;clear hsk Pz;go_wp2_with fail;go_roundw
     case rel=>exact⟨j+1,s',m,V',Rz.O,by omega,by go_num,rfl,hr'.O,hm'.O,XW.O,hBx6.O,NW.O⟩
     case measure=>simp[RowKit.intOf];omega
   ·have Pz:¬(wb:Int)=but:=λh=>hsk (.inl h)
    have hge:1<=mm:=by omega
    have hfit:=ah (hm'.O.fits hwb hge hmr.1 hmr.2.2.2);have XW:=ah (show uo o k but ((way p).drop (j+1)) (tZ s' o k wb mm) (m - mm)=qL p s o k n but by rw[<- hdr'.O,F8 Pz (by rw[<- hmin'.O];exact hge),<- hmin'.O])
    have hq:((wb:Int)==but)=false:=by simpa using Pz
    obtain⟨c0,c1,c2,c3,c4,c5,c6⟩:=hBx6.O.cells;have kD:=su hr2.O.aA;have jed:aO<=W6.heap.size:=aY rV (aY X3.size (aY hst'.O.size hb6.size));clear hsk Pz;go_wp2_with fail;refine(jrh _ _ s'.aA ⟨o,k,wb,mm⟩ (hBx6.O.own.aA.sl (by omega))).mono ?_
    rintro e W7 ⟨u7,rfl,hu7,hb7⟩;rw[jjU hr'.O hfit.O]at hu7 ⊢
    have FV:=ah (hBx6.O.below hb7);have jta:=ah (hu7.from_ jed);obtain⟨A7,c7,rfl⟩:=hu7.isSlice;clear hu7 c0 c1 c2 c3 c4 c5 c6;go_wp2_with (refine GV rfl (.tmp 73) (.tmp 70) rfl rfl A7 _ c7 _ FV.O rfl rfl jta.O (λw8 Jm AX=>?_);refine aW ?_)
    unfold Hid;obtain⟨jrc,f0,f1,f2,f3⟩:=Jm.own.sV (s:={s' with aA:=(tZ s' o k wb mm).aA}) hm'.O.ho hm'.O.hk (show V'.aG o=_ by rw[Rz.O];exact e1)
    have Oh:=ah Jm;have hw1:IntKind.i64.wrap ((s'.aG o k).dP - mm)=(s'.aG o k).dP - mm:=aN _ (by omega)
    have hw2:IntKind.i64.wrap (m - mm)=m - mm:=aN _ (by omega)
    have f3':w8.cell? ⟨gl,k*4+3,none⟩=some (.int .i64 (s'.aG o k).dP):=f3;clear Jm f0 f1 f2 f3;go_wp2_with (refine AO rfl (.tmp 81) (.tmp 79) rfl rfl (j:=3) (y:={s'.aG o k with dP:=(s'.aG o k).dP - mm}) Oh.O hm'.O.ho hm'.O.hk (show V'.aG o=_ by rw[Rz.O];exact e1) (by decide) rfl rfl rfl (λw9 jjh wJ=>?_);refine aW ?_)
    unfold Hid;have jjg:=ah (show Bx w9 aO b t rst {V' with aA:=.slice A7 (tZ s' o k wb mm).aA.length c7} (tZ s' o k wb mm)from jjh)
    have jid:=ah (((NW.O.trans (.of_below hb7)).trans (AX.mono λ_ h=>.inl h)).trans (wJ.mono λq hq=>.inr (by rw[hq,e1];rfl)))
    clear f3' jjh wJ AX;go_wp2_with fail;go_roundw
    case rel=>exact⟨j+1,tZ s' o k wb mm,m - mm,_,by rw[Rz.O],by omega,by go_num,rfl,NY hr'.O hfit.O,hm'.O.held (Held.one hr'.O hfit.O) hmr.1,XW.O,jjg.O,jid.O⟩
    case measure=>simp[RowKit.intOf];omega
  ·obtain rfl:j=(way p).length:=by omega
   have bK:=ah (show(s',m)=qL p s o k n but by rw[<- jh8.O,wS];rfl)
   have Rz:=ah hsb;clear hr hm htg hBx hst hsb;go_wp2_with fail;go_ret
   exact⟨iF (by rw[<- bK.O]),V',Rz.O,by rw[<- bK.O];exact jel.O,(Step.of_below X3).trans hst'.O⟩
end Wh
namespace Wh
open Go Go.RowKit
section
variable {P:Program}
theorem SB(w:World)(g o:Nat)(e ty:TypeId)(cur cs:List Value)(hg:iV w g e cur)(hfit:o+cs.length<=cur.length)(hi:(P.info? ty).map (·.size)=some cs.length)(h1:∀v∈cs,v.oneCell'=true):
  (storeVar ty ⟨g,o,none⟩ (.agg cs.toArray)).run P w=.ok () (w.setRow g (spl cur o cs).toArray):=by
 have:=vY P g o e cs 0 cur.toArray w hg (by simpa using hfit) h1
 cases hq:P.info? ty with
 |none=>simp[hq]at hi
 |some i=>
  have hs:i.size=cs.length:=by simpa[hq]using hi
  simp only[jB]at this
  simp[storeVar,Go.sizeOf,typeInfo,hq,Value.cells,hs,this,spl]
theorem jjn{α:Type}(enc:α->List Value)(k:Nat)(hk:∀x,(enc x).length=k){l:List α}{i:Nat}(hi:i<l.length)(y:α){cur:List Value}(hc:l.length*k<=cur.length)(ht:cur.take (l.length*k)=l.flatMap enc):
  (spl cur (i*k) (enc y)).take (l.length*k)=(l.set i y).flatMap enc:=by
 have h1:(i+1)*k<=l.length*k:=mY _ (by omega)
 have h2:i*k+k=(i+1)*k:=by rw[ku];omega
 have e1:l.set i y=l.take i++[y]++l.drop (i+1):=by
  rw[uX,aB hi,eH];rfl
 rw[e1,gy,gy,List.flatMap_singleton,<- Gv enc k hk,<- IL enc k hk,<- ht];have e2:(cur.take (i*k)++enc y).length=(i+1)*k:=by rw[aZ,bT,hk,jS (by omega),h2]
 unfold spl;rw[hk,h2,jaJ,kN (by rw[e2];exact h1),e2,oC,jS (by omega),List.drop_take]
theorem Own.put{α:Type}{enc:α->List Value}{size:Nat}{e:TypeId}{w:World}{aO g n c:Nat}{l:List α}(h:Own enc size e w aO (.slice (some ⟨g,0,none⟩) n c) l)(hk:∀x,(enc x).length=size){i:Nat}(hi:i<l.length)(y:α)
  {ty:TypeId} (hty:(P.info? ty).map (·.size)=some size) (h1:∀v∈enc y,v.oneCell'=true):
  ∃w',(storeVar ty ⟨g,i*size,none⟩ (.agg (enc y).toArray)).run P w=.ok () w'/\Own enc size e w' aO (.slice (some ⟨g,0,none⟩) n c) (l.set i y)/\w.grownBy w' (some g):=by
 obtain⟨g',cap,cur,e1,hb,hg,h2,h3,h4,h5⟩:=h.row (by omega)
 injection e1 with e1 e2 e3
 injection e1 with e1
 injection e1 with e1
 subst e1 e2 e3;have hle:l.length*size<=cur.length:=by rw[h4];exact mY _ h2
 have hfit:i*size+(enc y).length<=cur.length:=by
  rw[hk];have:(i+1)*size<=l.length*size:=mY _ (by omega)
  rw[ku]at this
  omega
 refine⟨_,SB w g (i*size) e ty cur (enc y) hg hfit (by rw[hk];exact hty) h1,?_,yU w g _⟩
 have:=Own.NH (l:=l.set i y) hk hb (hg.row (spl cur (i*size) (enc y))) (by rw[jU];exact h2) h3 (by rw[zG hfit];exact h4) (by rw[jU];exact jjn enc size hk hi y hle h5)
 rwa [jU]at this
theorem Qg{α:Type}{enc:α->List Value}{size:Nat}{e:TypeId}{w:World}{aO g n c:Nat}{l:List α}{ops:Array Oper}{rest:List Oper}{o:Oper}{a:Go.Act}{Q:Exit->Go.Act->World->Prop}(hgd:o.guard=none)(x z:Operand)(ty:TypeId)(ho:o.op=.store ty x z)(hn:o.dst=none)
  (h:Own enc size e w aO (.slice (some ⟨g,0,none⟩) n c) l) (hk:∀x,(enc x).length=size) {i:Nat} (hi:i<l.length) (y:α) (hty:(P.info? ty).map (·.size)=some size) (h1:∀v∈enc y,v.oneCell'=true)
  (hx:a.eval x=.pointer (some ⟨g,i*size,none⟩)) (hy:a.eval z=.agg (enc y).toArray)
  (hK:∀w',Own enc size e w' aO (.slice (some ⟨g,0,none⟩) n c) (l.set i y)->w.grownBy w' (some g)->wpList P ops Q rest a w'):wpList P ops Q (o::rest) a w:=
 jv hgd λK hK'=>by
  obtain⟨w',hr,h2,h3⟩:=h.put hk hi y hty h1;unfold Oper.wp execOp;simp only[ho,hx,hy,Instr.storeAt,Instr.sureAddr,jg,jw,iC,hr];have hk:=hK' (a.put o.dst undef) w' (by rw[hn];exact hK _ h2 h3)
  exact hk
theorem Own.cut{α:Type}{enc:α->List Value}{size:Nat}{e:TypeId}{w:World}{aO g n c:Nat}{l:List α}(h:Own enc size e w aO (.slice (some ⟨g,0,none⟩) n c) l)(hk:∀x,(enc x).length=size){i:Nat}(hi:i<l.length)
  {t:TypeId} {z:Value} (ht:P.underlying t=some (.slice e)) (hv:∀w,(zeroValue e).run P w=.ok z w) (hz:z.cells.size=size) (h1:∀v∈z.cells,v.oneCell'=true):
  ∃w',(∀ty c',(Builtin.clear_ #[t] ty #[.slice (some ⟨g,i*size,none⟩) (n - i) c']).run P w=.ok (.tuple #[]) w')/\Own enc size e w' aO (.slice (some ⟨g,0,none⟩) i c) (l.take i)/\w.grownBy w' (some g):=by
 obtain⟨g',cap,cur,e1,hb,hg,h2,h3,h4,h5⟩:=h.row (by omega)
 injection e1 with e1 e2 e3
 injection e1 with e1
 injection e1 with e1
 subst e1 e2 e3;have hle:l.length*size<=cur.length:=by rw[h4];exact mY _ h2
 have hsp:i*size+(l.length - i)*size=l.length*size:=by rw[<- ku];congr 1;omega
 have hzl:(Builtin.zeroCells z.cells (l.length - i)).toList.length=(l.length - i)*size:=by rw[nG,xK,hz]
 refine⟨_,λty c'=>Kr (P:=P) w t e ty z ht hv h1 g (i*size) (l.length - i) c' cur hg (by omega) (by rw[hz];omega),?_,yU w g _⟩
 have kD:(l.take i).length=i:=by rw[bT];omega
 have:=Own.NH (l:=l.take i) hk hb (hg.row (spl cur (i*size) (Builtin.zeroCells z.cells (l.length - i)).toList)) (by rw[kD];omega) h3 (by rw[zG (by rw[hzl];omega)];exact h4) (by
  rw[kD,Zq (by omega),<- Gv enc size hk,<- h5,oC,jS (by omega)])
 rwa [kD]at this
end
end Wh
namespace Wh
open Go Go.RowKit Go.Proofs Tryz
namespace dK
variable {w w':World} {aO:Nat} {V:SV} {s:aJ}
theorem jm0(h:dK w aO V s){o k:Nat}(ho:o<s.ak.length){gl n c:Nat}(hv:V.aG o=.slice (some ⟨gl,0,none⟩) n c)(y:Line)(hg:w.grownBy w' (some gl))(hO:Own kP 4 44 w' aO (V.aG o) ((s.aC o).aH.set k y)):
  dK w' aO V (s.lY o k y):=by
 have hl:=h.aG o ho;have hob:(V.aG o).ownBlock=some gl:=by rw[hv];rfl
 have hg':w.grownBy w' (V.aG o).ownBlock:=by rw[hob];exact hg
 have kD:(s.lY o k y).ak.length=s.ak.length:=by unfold aJ.lY;simp
 have hor:∀o',(s.lY o k y).aC o'=if o'=o then {s.aC o with aH:=(s.aC o).aH.set k y}else s.aC o':=λo'=>SE ho
 refine⟨h.on.kept hg' (h.on.apart hl (by decide)),h.rlen,λb hb=>(h.row b hb).kept hg' ((h.row b hb).apart hl (by decide)),?_,by rw[kD];exact h.llen,λo' ho'=>?_,h.aA.kept hg' (h.aA.apart hl (by decide)),h.aF.kept hg' (h.aF.apart hl (by decide)),h.gY.kept hg' (h.gY.apart hl (by decide)),h.O.kept hg' (h.O.apart hl (by decide)),h.bg.kept hg' (h.bg.apart hl (by decide)),h.apart,h.yS⟩
 ·have e:zI (s.lY o k y).ak V.aH=zI s.ak V.aH:=jbj rfl;rw[e];exact h.ak.kept hg' (h.ak.apart hl (by decide))
 ·rw[kD]at ho'
  rw[hor];by_cases he:o'=o
  ·subst he;rw[aB rfl];exact hO
  ·rw[ay he];exact(h.aG o' ho').kept hg' (Lr h.yS (by rw[h.llen];exact ho') (by rw[h.llen];exact ho) he)
theorem IQ(h:dK w aO V s)(hg:w.grownBy w' V.aF.ownBlock){v:Value}{l:List Move}(hv:Own nP 4 48 w' aO v l):dK w' aO {V with aF:=v} {s with aF:=l}:=h.VJ hg hv
end dK
section
variable {ops:Array Oper} {rest:List Oper} {o:Oper} {a:Act} {w:World} {Q:Exit→Act→World→Prop} {aO b:Nat} {t:TypeId} {cs:List Value} {V:SV} {s:aJ}
theorem F6(hgd:o.guard=none)(x z:Operand)(ho:o.op=.store 3 x z)(hn:o.dst=none){i go n c:Nat}{q:Int}(hB:Bx w aO b t cs V s)(hi:i<s.ak.length)
  (hv:V.ak=.slice (some ⟨go,0,none⟩) n c) (hx:a.eval x=.pointer (some ⟨go,i*2,none⟩)) (hz:a.eval z=.int .i64 q)
  (h:∀w',Bx w' aO b t cs V {s with ak:=s.ak.set i {s.aC i with dW:=q}}->Step (·=go) w w'->wpList prog ops Q rest a w'):wpList prog ops Q (o::rest) a w:=
 jv hgd λK hK=>by
  obtain⟨g',c',cur,e1,_,e3,f0,f1⟩:=hB.own.aU hi;rw[hv]at e1
  injection e1 with e1
  injection e1 with e1
  injection e1 with e1
  subst e1;obtain⟨h1,h2⟩:=hB.own.setKind hi hv q;have h3:=h _ ⟨hB.off e3 hB.ty.h3 h2,h1,hB.ty⟩ (.jR h2 λk hk=>by injection hk with hk;exact hk.symm)
  have hf:=e3.frozen (i*2);clear h hB h1 h2 f1 e3;unfold Oper.wp;simp only[execOp,ho,hx,hz];go_simp
  exact hK _ _ h3
theorem GU(hgd:o.guard=none)(x z:Operand)(ho:o.op=.store 3 x z)(hn:o.dst=none){i g gr n c:Nat}{q:Int}(hB:Bx w aO b t cs V s)(hi:i<s.on.length)(hg:g<(fO s.on i).length)
  (hv:V.row i=.slice (some ⟨gr,0,none⟩) n c) (hx:a.eval x=.pointer (some ⟨gr,g,none⟩)) (hz:a.eval z=.int .i64 q)
  (h:∀w',Bx w' aO b t cs V {s with on:=setCell s.on i g q}->Step (·=gr) w w'->wpList prog ops Q rest a w'):wpList prog ops Q (o::rest) a w:=
 jv hgd λK hK=>by
  obtain⟨_,_,_,g',c',cur,_,_,_,_,e1,_,e3,f0⟩:=hB.own.Py hi hg;rw[hv]at e1
  injection e1 with e1
  injection e1 with e1
  injection e1 with e1
  subst e1;obtain⟨h1,h2⟩:=hB.own.Yv hi hg hv q;have h3:=h _ ⟨hB.off e3 hB.ty.h2 h2,h1,hB.ty⟩ (.jR h2 λk hk=>by injection hk with hk;exact hk.symm)
  have hf:=e3.frozen g;clear h hB h1 h2 e3;unfold Oper.wp;simp only[execOp,ho,hx,hz];go_simp
  exact hK _ _ h3
theorem Yi(hgd:o.guard=none)(x z:Operand)(ho:o.op=.store 3 x z)(hn:o.dst=none){g gr n c:Nat}{q:Int}(hB:Bx w aO b t cs V s)(hg:g<s.O.length)
  (hv:V.O=.slice (some ⟨gr,0,none⟩) n c) (hx:a.eval x=.pointer (some ⟨gr,g,none⟩)) (hz:a.eval z=.int .i64 q)
  (h:∀w',Bx w' aO b t cs V {s with O:=s.O.set g q}->Step (·=gr) w w'->wpList prog ops Q rest a w'):wpList prog ops Q (o::rest) a w:=
 jv hgd λK hK=>by
  obtain⟨g',c',cur,e1,_,e3,f0⟩:=dK.BF hB.own.O hg;rw[hv]at e1
  injection e1 with e1
  injection e1 with e1
  injection e1 with e1
  subst e1;obtain⟨h1,h2⟩:=hB.own.jmF hg hv q;have h3:=h _ ⟨hB.off e3 hB.ty.h2 h2,h1,hB.ty⟩ (.jR h2 λk hk=>by injection hk with hk;exact hk.symm)
  have hf:=e3.frozen g;clear h hB h1 h2 e3;unfold Oper.wp;simp only[execOp,ho,hx,hz];go_simp
  exact hK _ _ h3
theorem TF(hgd:o.guard=none)(x z:Operand)(ho:o.op=.store 3 x z)(hn:o.dst=none){g gr n c:Nat}{q:Int}(hB:Bx w aO b t cs V s)(hg:g<s.bg.length)
  (hv:V.bg=.slice (some ⟨gr,0,none⟩) n c) (hx:a.eval x=.pointer (some ⟨gr,g,none⟩)) (hz:a.eval z=.int .i64 q)
  (h:∀w',Bx w' aO b t cs V {s with bg:=s.bg.set g q}->Step (·=gr) w w'->wpList prog ops Q rest a w'):wpList prog ops Q (o::rest) a w:=
 jv hgd λK hK=>by
  obtain⟨g',c',cur,e1,_,e3,f0⟩:=dK.BF hB.own.bg hg;rw[hv]at e1
  injection e1 with e1
  injection e1 with e1
  injection e1 with e1
  subst e1;obtain⟨h1,h2⟩:=hB.own.jha hg hv q;have h3:=h _ ⟨hB.off e3 hB.ty.h2 h2,h1,hB.ty⟩ (.jR h2 λk hk=>by injection hk with hk;exact hk.symm)
  have hf:=e3.frozen g;clear h hB h1 h2 e3;unfold Oper.wp;simp only[execOp,ho,hx,hz];go_simp
  exact hK _ _ h3
theorem jf3:(prog.info? 44).map (·.size)=some 4:=by kernel_rfl
theorem jhF(x:Line):∀u∈kP x,u.oneCell'=true:=by simp[kP,Value.oneCell']
theorem jaQ(hgd:o.guard=none)(x z:Operand)(ho:o.op=.store 44 x z)(hn:o.dst=none){i k gl n c:Nat}{y:Line}(hB:Bx w aO b t cs V s)(hi:i<s.ak.length)(hk:k<(s.aC i).aH.length)
  (hv:V.aG i=.slice (some ⟨gl,0,none⟩) n c) (hx:a.eval x=.pointer (some ⟨gl,k*4,none⟩)) (hz:a.eval z=I5 y)
  (h:∀w',Bx w' aO b t cs V (s.lY i k y)->Step (·=gl) w w'->wpList prog ops Q rest a w'):wpList prog ops Q (o::rest) a w:=by
 obtain⟨g',c',cur,e1,_,e3,_⟩:=hB.own.gK hi hk;rw[hv]at e1
 injection e1 with e1 e2 e2'
 injection e1 with e1
 injection e1 with e1
 subst e1;have hO:=hB.own.aG i hi;rw[hv]at hO
 refine Qg hgd x z _ ho hn hO (λ_=>rfl) hk y jf3 (jhF y) hx hz λw' h1 h2=>?_
 rw[<- hv]at h1
 exact h w' ⟨hB.off e3 hB.ty.h4 h2,hB.own.jm0 hi hv y h2 h1,hB.ty⟩ (.jR h2 λk hk=>by injection hk with hk;exact hk.symm)
end
end Wh
namespace Wh
open Go Go.RowKit Go.Shelf Go.Proofs Tryz
attribute [local go_sem] aT jW jm kC
theorem dK.oP{w:World}{aO:Nat}{V:SV}{s:aJ}(h:dK w aO V s){o:Nat}(ho:o<s.ak.length){go n c:Nat}(hv:V.ak=.slice (some ⟨go,0,none⟩) n c):aO<=go/\go<w.heap.size/\
  w.cell? ⟨go,o*2,none⟩=some (.int .i64 (s.aC o).dW)/\w.cell? ⟨go,o*2+1,none⟩=some (V.aG o):=by
 obtain⟨g',c',cur,e1,h2,h3,z0,z1⟩:=h.aU ho;rw[hv]at e1
 injection e1 with e1
 injection e1 with e1
 injection e1 with e1
 subst e1;exact⟨h2,h3.lt,z0,z1⟩
theorem dK.Dx{w:World}{aO:Nat}{V:SV}{s:aJ}(h:dK w aO V s){o:Nat}(ho:o<s.ak.length)(hl:0<(s.aC o).aH.length):∃gl c,V.aG o=.slice (some ⟨gl,0,none⟩) (s.aC o).aH.length c/\aO<=gl:=by
 obtain⟨g,c,cur,e1,h2,_⟩:=h.gK ho hl;exact⟨g,c,e1,h2⟩
theorem dK.EL{w:World}{aO:Nat}{V:SV}{s:aJ}(h:dK w aO V s):∃A c,V.ak=.slice A s.ak.length c:=by
 obtain⟨A,c,e⟩:=h.ak.isSlice;exact⟨A,c,by rw[e,uJ h.llen]⟩
theorem Vf{V9 V V5:SV}(h:V9={V with aA:=V9.aA})(h':V={V5 with aA:=V.aA}):V9={V5 with aA:=V9.aA}:=by
 rw[h']at h
 exact h
theorem jfz(w:World)(v vs:Value)(p:dA)(s:aJ)(hp:mW w w.heap.size v p)(hv:lK w w.heap.size vs s):
  Calls prog 46 #[v,vs] w (nN (zq p s) w):=by
 obtain⟨Ab,cb,As,cs,rfl,hP',hBn,hSz,hlb,hls⟩:=sN hp;obtain⟨A0,c0,A1,c1,A2,c2,A3,c3,A4,c4,A5,c5,A6,c6,rfl,hV,hN,hO,hH,hM,hI,hU,hX,hl0,hl1,hl2,hl3,hl4,hl5,JA⟩:=oW hv;go_enter func46,ntmps46
 go_wp2_with fail;obtain⟨W0,hW0,hb0,lg,uZ,hsE,hK,hR⟩:=yD w p s Ab cb As cs A0 c0 A1 c1 A2 c2 A3 c3 A4 c4 A5 c5 A6 c6;rw[hW0];clear hW0;obtain⟨⟨y0,y1⟩,x0,x1,x2,x3,x4,x5,x6,eP,eU⟩:=hK.O W0 (aj W0.heap.size W0);go_wp2_with fail;clear y0 y1 x0 x1 x2 x3 x4 x5 x6 eP eU;refine(Nz _ _ _ p s (hP'.O _ hb0) (hV.O _ hb0)).mono ?_
 rintro e W1 ⟨rfl,h1⟩;have hB1:=hb0.trans (h1.mono hb0.size);obtain⟨⟨y0,y1⟩,x0,x1,x2,x3,x4,x5,x6,eP,eU⟩:=hK.O W1 (h1);by_cases hc:aQ p s=0
 ·have hc':=ah hc;have hsn:=ah (kM.1 hc).1;have bK:=ah (Vs hc);have h4:=hsn.O.qH;rw[hc];clear hc;go_wp2_with fail;clear y0 y1 x0 x1 x2 x3 x4 x5 x6 eP eU;refine(ja1 _ _ p s (hV.O _ hB1) hsn.O).mono ?_
  rintro e W5 ⟨_,rfl,⟨V5,rfl,AY⟩,h5⟩;have pq:=(AY).one;have xw:=vG (W5);go_wp2_with (refine dB (.tmp 7) (.tmp 22) dH V5 rfl xw rfl pq (λw6 lM Ib=>?_);refine aW ?_)
  unfold Hid;have sG:=qX Ib;have vT:=lM.lt;clear pq xw Ib;have hx6:=ah (Bx.of lM (AY.below sG));have h06:=h1.trans ((h5.trans (sG.mono h5.size)).mono h1.size);have hle:w.heap.size<=W1.heap.size:=hB1.size;have hle0:W0.heap.size<=W1.heap.size:=h1.size;have zZ:W1.heap.size<=W5.heap.size:=h5.size;clear lM AY sG h5 vT h1 hB1;generalize W1.heap.size=aO at hx6 hle hle0 zZ
  generalize W5.heap.size=bx at hx6 zZ ⊢
  obtain⟨Ao,co,hvo⟩:=hx6.O.own.EL;have Gp:=ah hvo;have c1:=hx6.O.cells.2.1;rw[hvo]at c1
  clear hvo;go_wp2_with fail;clear c1;go_loopw[26,8,9,10] (λi _ _ _ wr=>∃n:Nat,n<=s.ak.length/\i=.int .i64 n/\Bx wr aO bx 31 [] V5 (tX s n)/\Below W0.heap.size W0 wr) (λi _ _ _ _=>s.ak.length - (RowKit.intOf i).toNat)
  case atStart=>exact⟨0,aK _,rfl,by rw[TY];exact hx6.O,h06⟩
  case round=>
   clear hx6 h06;obtain⟨n,hn,rfl,hx,h0⟩:=hrel;have hx':=ah hx;clear hx;by_cases hlt:n<s.ak.length
   ·have hni:(n:Int)<(s.ak.length:Int):=by omega
    have KT:n<(tX s n).ak.length:=by rw[Ez];exact hlt
    have l13:=hsn.O.tN hlt;obtain⟨go,_,_,eo,-⟩:=hx'.O.own.aU KT;rw[Gp.O]at eo
    injection eo with eo e2 e3
    subst eo;clear e2 e3;obtain⟨hgo,jgc,z0,z1⟩:=hx'.O.own.oP KT Gp.O;rw[Ir hlt]at z0
    have c1:=hx'.O.cells.2.1;rw[Gp.O]at c1
    clear KT;by_cases hk:(s.aC n).dW=0
    ·have hq:((s.aC n).dW==0)=true:=by simpa using hk
     have hk':=ah hk;clear hk;go_wp2_with (refine F6 rfl (.tmp 40) (.const (.int .i64 1)) rfl rfl (i:=n) (q:=1) hx'.O (by rw[Ez];exact hlt) Gp.O rfl rfl (λw7 hx7 Ee=>?_);refine aW ?_)
     unfold Hid;rw[Uc hlt]at hx7
     have h07:=h0.trans (Ee.below (B:=W0.heap.size) (λq hq=>by omega) h0.size)
     have zx:=ah hx7;clear Ee hx7 z0 z1 c1 hq hx';obtain⟨_,_,z0,z1⟩:=zx.O.own.oP (by rw[Jo];exact hlt) Gp.O
     obtain⟨gl,cl,e1,hgl⟩:=zx.O.own.Dx (o:=n) (by rw[Jo];exact hlt) (by rw[DI hlt];omega)
     rw[DI hlt]at e1
     have e1':=ah e1;rw[e1]at z1
     clear e1 z0;go_wp2_with fail;clear z1;go_loopw[46,10] (λi _ wr=>∃k:Nat,k<=(s.aC n).aH.length/\i=.int .i64 k/\Bx wr aO bx 31 [] V5 (Dk s n k)/\Below W0.heap.size W0 wr) (λi _ _=>(s.aC n).aH.length - (RowKit.intOf i).toNat)
     case atStart=>exact⟨0,aK _,rfl,zx.O,h07⟩
     case round=>
      clear zx h07 h0;obtain⟨k,hkl,rfl,hx,h0⟩:=hrel;have hx':=ah hx;clear hx;by_cases hkt:k<(s.aC n).aH.length
      ·have hki:(k:Int)<((s.aC n).aH.length:Int):=by omega
       have hon:n<(Dk s n k).ak.length:=by rw[Jo];exact hlt
       have hkn:k<((Dk s n k).aC n).aH.length:=by rw[DI hlt];exact hkt
       obtain⟨_,_,_,z1⟩:=hx'.O.own.oP hon Gp.O;rw[e1'.O]at z1
       obtain⟨XZ,f0,f1,f2,f3⟩:=hx'.O.own.sV hon hkn e1'.O;rw[J4 hlt hkt]at f1
       have Wj:=ah hx'.O.drew;clear f0 f2 f3;go_wp2_with fail;go_still_tail 15,(by kernel_rfl)
       change wpList _ _ _ _ _ wr.drew;refine AO rfl (.tmp 63) (.tmp 61) rfl rfl (j:=3) (y:={s.aG n k with dP:=(s.aG n k).iw}) Wj.O hon hkn e1'.O (by decide) (by rw[J4 hlt hkt];rfl) rfl rfl (λw9 uO wJ=>?_)
       refine fC ?_
       rw[Ud hlt hkt]at uO
       have h09:=h0.drew.trans (wJ.below (B:=W0.heap.size) (λq hq=>by omega) h0.drew.size)
       have Dj:=ah uO;clear wJ uO z1 f1 hx' Wj hon hkn;go_wp2_with fail;go_roundw
       case rel=>exact⟨k+1,by omega,by go_num,Dj.O,h09⟩
       case measure=>simp[RowKit.intOf];omega
      ·obtain rfl:k=(s.aC n).aH.length:=by omega
       have hx2:=ah (show Bx wr aO bx 31 [] V5 (tX s (n+1))by rw[<- WS hlt hk'.O];exact hx'.O)
       go_wp2_with fail;go_roundw
       case rel=>exact⟨n+1,by omega,by go_num,hx2.O,h0⟩
       case measure=>simp[RowKit.intOf];omega
    ·have hq:((s.aC n).dW==0)=false:=by simpa using hk
     have hx2:=ah (show Bx wr aO bx 31 [] V5 (tX s (n+1))by rw[Ub hlt hk];exact hx'.O)
     clear hk;go_wp2_with fail;go_roundw
     case rel=>exact⟨n+1,by omega,by go_num,hx2.O,h0⟩
     case measure=>simp[RowKit.intOf];omega
   ·obtain rfl:n=s.ak.length:=by omega
    have hx6:=ah (show Bx wr aO bx 31 [] V5 (jV p 0 (mV s))by rw[<- WR];exact hx'.O)
    have c1:=hx'.O.cells.2.1;rw[Gp.O]at c1
    clear hx';go_wp2_with fail;clear c1;have h06:=h0;clear h0;go_loopw[69,11,12,13] (λi _ _ _ wr=>∃(n:Nat) (V:SV),V={V5 with aA:=V.aA}/\n<=s.ak.length/\i=.int .i64 n/\Bx wr aO bx 31 [] V (jV p n (mV s))/\Below W0.heap.size W0 wr) (λi _ _ _ _=>s.ak.length - (RowKit.intOf i).toNat)
    case atStart=>exact⟨0,V5,rfl,aK _,rfl,hx6.O,h06⟩
    case round=>
     clear hx6 h06;obtain⟨n,V,Xv,hn,rfl,hx,h0⟩:=hrel;have hx':=ah hx;have Ph:=ah (show V.ak=.slice Ao s.ak.length co by rw[Xv];exact Gp.O)
     have KC:=ah Xv;clear hx Xv;by_cases hlt:n<s.ak.length
     ·have hni:(n:Int)<(s.ak.length:Int):=by omega
      have l13:=hsn.O.tN hlt;obtain⟨hrt,kD,Hz⟩:=LP (p:=p) hc'.O hn;have KT:n<(jV p n (mV s)).ak.length:=by rw[kD];exact hlt
      have hln:=Hz n hlt;obtain⟨go,_,_,eo,-⟩:=hx'.O.own.aU KT;rw[Ph.O]at eo
      injection eo with eo e2 e3
      subst eo;clear e2 e3;obtain⟨hgo,jgc,z0,z1⟩:=hx'.O.own.oP KT Ph.O;obtain⟨gl,cl,e1,hgl⟩:=hx'.O.own.Dx KT (by rw[hln];omega)
      rw[hln]at e1
      rw[e1]at z1
      have e1':=ah e1;have hl0:=ah h0;generalize hkd:((jV p n (mV s)).aC n).dW=kd at z0
      have SQ:=ah hkd;clear hkd hrt kD Hz KT hln e1;by_cases hk:kd=1
      ·subst hk;have h0a:=h0.alloc h0.size (.cells #[.int .i64 1,.slice (some ⟨gl,0,none⟩) (s.aC n).aH.length cl] 42);have hxa:=ah (hx'.O.below ((aj wr.heap.size wr).alloc (au _) (.cells #[.int .i64 1,.slice (some ⟨gl,0,none⟩) (s.aC n).aH.length cl] 42)));go_wp2_with fail;clear z0 z1 h0 hl0 hx';generalize wr.heap.size=wo;generalize wr.alloc (.cells #[.int .i64 1,.slice (some ⟨gl,0,none⟩) (s.aC n).aH.length cl] 42)=wa at h0a hxa ⊢
       go_loopw[80,13] (λi _ wr=>∃(k:Nat) (V:SV),V={V5 with aA:=V.aA}/\k<=(s.aC n).aH.length/\i=.int .i64 k/\Bx wr aO bx 31 [] V (Ed p s n k)/\Below W0.heap.size W0 wr) (λi _ _=>(s.aC n).aH.length - (RowKit.intOf i).toNat)
       case atStart=>exact⟨0,V,KC.O,aK _,rfl,hxa.O,h0a⟩
       case round=>
        clear hxa h0a Ph KC e1' V;obtain⟨k,V,Xv,hkl,rfl,hx,h0⟩:=hrel;have hx':=ah hx;have Ph:=ah (show V.ak=.slice (some ⟨go,0,none⟩) s.ak.length co by rw[Xv];exact Gp.O)
        have KC:=ah Xv;clear hx Xv;by_cases hkt:k<(s.aC n).aH.length
        ·have hki:(k:Int)<((s.aC n).aH.length:Int):=by omega
         obtain⟨hrt,kD,_,hln⟩:=LQ hc'.O hlt SQ.O hkl;have hmay:=ah (ja8 hc'.O hlt SQ.O hkt);have jbO:=ah hrt;have hon:n<(Ed p s n k).ak.length:=by rw[kD];exact hlt
         have hkn:k<((Ed p s n k).aC n).aH.length:=by rw[hln];exact hkt
         obtain⟨_,_,_,z1⟩:=hx'.O.own.oP hon Ph.O;obtain⟨gl2,cl2,e1,jre⟩:=hx'.O.own.Dx hon (by rw[hln];omega)
         rw[hln]at e1
         rw[e1]at z1
         obtain⟨XZ,f0,f1,f2,f3⟩:=hx'.O.own.sV hon hkn e1;have c1:=hx'.O.cells.2.1;rw[Ph.O]at c1
         have hxd:=ah hx'.O.drew;have hBd:=hb0.trans (h0.drew.mono hb0.size);have e1':=ah e1;obtain⟨⟨y0,y1⟩,x0,x1,x2,x3,x4,x5,x6,eP,eU⟩:=hK.O wr (h0);clear f0 f1 f2 hrt kD hln hon hkn e1 x0 x1 x2 x3 x4 x5 x6 eP;go_wp2_with fail;go_still_tail 13,(by kernel_rfl)
         change wpList _ _ _ _ _ wr.drew;clear y0 y1 eU z1 f3 c1;go_wp2_with fail;refine(jeH wr.drew _ p (Ed p s n k) n k _ (-1) (hP'.O _ hBd) jbO.O hmay.O hxd.O (by have:=h0.size;show aO<=wr.heap.size;omega)).mono ?_
         rintro e w9 ⟨rfl,V9,hV9,uO,wJ⟩;have h09:=h0.drew.trans (wJ.below (B:=W0.heap.size) (λq hq=>by
          rcases hq with rfl|hq
          ·omega
          ·rw[e1'.O]at hq
           change some gl2=some q at hq
           injection hq with hq
           omega) h0.drew.size)
         have ji5:=ah (Vf hV9 KC.O);have Dj:=ah (show Bx w9 aO bx 31 [] V9 (Ed p s n (k+1))from uO)
         clear uO wJ hV9 hxd hx' KC Ph hmay jbO e1';go_wp2_with fail;go_roundw
         case rel=>exact⟨k+1,V9,ji5.O,by omega,by go_num,Dj.O,h09⟩
         case measure=>simp[RowKit.intOf];omega
        ·obtain rfl:k=(s.aC n).aH.length:=by omega
         have hx2:=ah (show Bx wr aO bx 31 [] V (jV p (n+1) (mV s))by rw[<- ja7 hc'.O hlt SQ.O];exact hx'.O)
         go_wp2_with fail;go_roundw
         case rel=>exact⟨n+1,V,KC.O,by omega,by go_num,hx2.O,h0⟩
         case measure=>simp[RowKit.intOf];omega
      ·have hq:(kd !=1)=true:=by simpa using hk
       have h0a:=h0.alloc h0.size (.cells #[.int .i64 kd,.slice (some ⟨gl,0,none⟩) (s.aC n).aH.length cl] 42);have hxa:=ah (show Bx _ aO bx 31 [] V (jV p (n+1) (mV s))by rw[jeT (by rw[SQ.O];exact hk)];exact(hx'.O.below ((aj wr.heap.size wr).alloc (au _) (.cells #[.int .i64 kd,.slice (some ⟨gl,0,none⟩) (s.aC n).aH.length cl] 42))))
       clear hk;go_wp2_with fail;go_roundw
       case rel=>exact⟨n+1,V,KC.O,by omega,by go_num,hxa.O,h0a⟩
       case measure=>simp[RowKit.intOf];omega
     ·obtain rfl:n=s.ak.length:=by omega
      have hB0:=hb0.trans (h0.mono hb0.size);have hx2:=ah (show Bx wr aO bx 31 [] V (Ec p s)from hx'.O)
      clear hx';have fH:=hR.O _ h0;obtain⟨b0,b1,b2,b3,b4,b5,b6⟩:=jk.cells hx2.O.uK;have lG:=dK.one hx2.O.own;go_wp2_with (refine dB (.tmp 4) (.tmp 99) dH V rfl fH rfl lG (λw9 dM je=>?_))
      have wC:=dK.keptBy hx2.O.own je fH (by decide) (by decide) (by decide) (by decide) (by decide) (by decide)
      have dN:=Below.gB hB0 je;clear b0 b1 b2 b3 b4 b5 b6;go_wp2_with fail;exact jo results46 dM rfl rfl (EZ bK.O (wC.from_ hle) dN)
 ·have hne:(aQ p s !=0)=true:=by simpa using hc
  have bK:=ah (TJ hc);clear hc;have fH:=hR.O _ h1;go_wp2_with (refine dB (.tmp 4) (.tmp 19) dH dH rfl fH rfl rfl (λw9 dM je=>?_))
  have dN:=Below.gB hB1 je;go_wp2_with fail;exact jo results46 dM rfl rfl (jQ bK.O dN)
end Wh
