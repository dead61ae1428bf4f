/- Texts of the claim, joined. -/
import Derived.RangeFuncNested
import Derived.OwnWalkIn
import Derived.TacticsInMore
import Derived.LoopNIn
import Derived.LoopIn
import Derived.Test.YtniaecolikhmeaaGreatDoorQ09
set_option maxHeartbeats 20000000
set_option maxRecDepth 100000
set_option linter.all false
namespace Wh
open Go Go.RowKit Go.Shelf Go.Proofs Tryz
section
attribute [local go_sem] aV
attribute [local go_sem] Oper.semAt_some
def KpB(n₀ Bf:Nat)(W W':World):Prop:=Below n₀ W W'/\W'.cell? Bf=W.cell? Bf
theorem jkM(F:Fence)(n:Nat)(h7:F.fn 153)(hro:F.round=none)(hn:1<=n)(l Bp Bf n₀:Nat)(p:dG)(f:Bool)(Ab As:Option Addr)(cb cs:Nat)(hlb:p.dP.length<=6)(J Jx:List Nat->World->Prop)
  (hY:∀(pre:List Nat) (x:Nat) W,J pre W->pre.length<p.dP.length->YieldAt F (n - 1) prog l #[.int .i64 ((x:Nat):Int)] W λe W'=>
   (e=.returned (.bool true)/\J (pre++[x]) W'/\KpB n₀ Bf W W')\/(e=.returned (.bool false)/\Jx (pre++[x]) W'))
  (W:World) (hn0:n₀<=W.heap.size) (hJ:AbidesFrom W J) (hBf:Bf<W.heap.size) (hp0:W.cell? Bp=some (.slice Ab p.dP.length cb)) (_:W.cell? ⟨Bp,1,none⟩=some (.slice As p.aW.length cs))
  (hf:W.cell? Bf=some (.bool f)) (hA:At W n₀ Ab (p.dP.flatMap Qv)) (h0:J [] W):
  CallsIn F n prog 153 #[.func (.yield l) #[] #[],.pointer (some Bp),.pointer (some Bf)] W λe W'=>(∃v,e=.returned v)/\
   ((∃ys,ys=FV p f/\J ys W')\/(∃pre,(∃k,k<=p.dP.length/\pre=vT p f k)/\Jx pre W')):=by
 refine nT func153 rfl h7 ?_ hro
 simp only[ntmps153,iR,bP,dQ,Nat.reduceAdd,Nat.reduceSub,gW,iG,jh,iM,fJ,gG];gi_wp2
 gi_loopw [9] (λi wr=>∃k:Nat,k<=p.dP.length/\i=.int .i64 k/\J (vT p f k) wr/\KpB n₀ Bf W wr)
  (λi _=>p.dP.length - (RowKit.intOf i).toNat)
 case atStart=>exact⟨0,aN _,rfl,h0,aj _ _,rfl⟩
 case round=>
  obtain⟨k,hk,rfl,hJs,hnx,hnf⟩:=hrel;by_cases hlt:k<p.dP.length
  ·obtain⟨hok,MW,b0,b1,b2,b3⟩:=(hA.up hnx (ay _)).bin hlt;have g0:=hnf.trans hf;have hBw:Bf<wr.heap.size:=by have:=hnx.size;omega
   have hJa:=hJ _ _ _ none hJs (oK wr (.cells #[.bool (mG p.dP k).front,.int .i64 (mG p.dP k).room,.int .i64 (mG p.dP k).low,.int .i64 (mG p.dP k).high] 66) none) (λr h=>by cases h)
   have hBa:Below n₀ wr (wr.alloc (.cells #[.bool (mG p.dP k).front,.int .i64 (mG p.dP k).room,.int .i64 (mG p.dP k).low,.int .i64 (mG p.dP k).high] 66)):=(aj _ _).alloc (by have:=hnx.size;omega) _
   have hca:(wr.alloc (.cells #[.bool (mG p.dP k).front,.int .i64 (mG p.dP k).room,.int .i64 (mG p.dP k).low,.int .i64 (mG p.dP k).high] 66)).cell? Bf=wr.cell? ⟨Bf,0,none⟩:=
    ((aj wr wr).alloc (ay _) _).cell (p:=Bf) hBw
   cases hfr:((mG p.dP k).front==f)
   ·have hno:=Hw (p:=p) (f:=f) (k:=k) (by simpa using hfr)
    gi_wp2
    refine⟨λ_ h=>(by cases h),?_⟩
    gi_wp2
    go_roundw
    case rel=>exact⟨k+1,by omega,by simp,by rw[hno];exact hJa,hnx.trans hBa,hca.trans hnf⟩
    case measure=>simp[dY];omega
   ·have hyes:=FU (p:=p) (f:=f) (k:=k) (by simpa using hfr)
    obtain⟨fn,tmps,assign,body,hy,hR⟩:=hY _ k _ hJa (by have:=Ea p f k;omega)
    gi_wp2
    refine hR.mono ?_
    rintro e W3 (⟨rfl,hJ3,hk3⟩|⟨rfl,hJx3⟩)
    ·gi_wp2
     go_roundw
     case rel=>exact⟨k+1,by omega,by simp,by rw[hyes];exact hJ3,(hnx.trans hBa).trans hk3.1,(hk3.2.trans hca).trans hnf⟩
     case measure=>simp[dY];omega
    ·gi_wp2
     refine bV (uU rfl _ _ _) rfl ?_
     exact⟨⟨_,rfl⟩,.inr ⟨_,⟨k+1,by omega,hyes.symm⟩,hJx3⟩⟩
  ·obtain rfl:k=p.dP.length:=by omega
   gi_wp2
   go_end0
   exact⟨⟨_,rfl⟩,.inl ⟨_,rfl,hJs⟩⟩
theorem VR(F:Fence)(n:Nat)(h:F.fn 104)(hro:F.round=none)(v0 v1:Value)(f:Bool)(w:World):
  CallsIn F n prog 104 #[.agg #[v0,v1],.bool f] w λe w'=>e=.returned (.func (.func 153) #[] #[.pointer (some w),.pointer (some ⟨w.heap.size+1,0,none⟩)])/\
   w'=(w.alloc (.cells #[v0,v1] 25)).alloc (.cells #[.bool f] 4):=by
 refine nT func104 rfl h ?_ hro
 simp only[ntmps104,iR,bP,dQ,Nat.reduceAdd,Nat.reduceSub,gW,iG,jh,iM,fJ,gG];gi_wp2
 go_ret
 exact⟨rfl,rfl⟩
theorem jfF(F:Fence)(n:Nat)(h7:F.fn 153)(hro:F.round=none)(hn:1<=n)(Bp Bf n₀:Nat)(p:dG)(f:Bool)(Ab As:Option Addr)(cb cs:Nat)(hlb:p.dP.length<=6)(w:World)(hn0:n₀<=w.heap.size)(hBp:Bp<w.heap.size)(hBf:Bf<w.heap.size)
  (hp0:w.cell? Bp=some (.slice Ab p.dP.length cb)) (hp1:w.cell? ⟨Bp,1,none⟩=some (.slice As p.aW.length cs)) (hf:w.cell? Bf=some (.bool f)) (hA:At w n₀ Ab (p.dP.flatMap Qv)):
  SeqStopsK F n prog 153 #[.pointer (some Bp),.pointer (some Bf)] (λx:Nat=>#[Value.int .i64 ((x:Nat):Int)]) (KpB n₀ Bf) (λys=>ys=FV p f) (λpre=>∃k,k<=p.dP.length/\pre=vT p f k) p.dP.length w:=λl J Jx W hW hJ _ hY h0=>
 jkM F n h7 hro hn l Bp Bf n₀ p f Ab As cb cs hlb J Jx hY W (aU hn0 hW.size) hJ (aJ hBf hW.size) ((hW.cell (p:=Bp) hBp).trans hp0) ((hW.cell (p:=⟨Bp,1,none⟩) hBp).trans hp1)
  ((hW.cell (p:=Bf) hBf).trans hf) (hA.up (hW.mono hn0) (ay _)) h0
end
section
attribute [local go_sem] aV
attribute [local go_sem] Oper.semAt_some
def pV(L:List (Nat×Obj))(W:World):Prop:=∀x∈L,W.heap[x.1]?=some x.2
theorem pV.lt{L:List (Nat×Obj)}{W:World}(h:pV L W):∀x∈L,x.1<W.heap.size:=λx hx=>(bI.1 (h x hx)).1
theorem pV.grown{L:List (Nat×Obj)}{W W':World}{row:Option Nat}(h:pV L W)(hg:W.grownBy W' row)(hne:∀x∈L,some x.1≠row):pV L W':=λx hx=>(hg.block x.1 (h.lt x hx) (hne x hx)).trans (h x hx)
theorem pV.alloc{L:List (Nat×Obj)}{W:World}(h:pV L W)(o:Obj):pV L (W.alloc o):=h.grown (oK W o none) (λ_ _ e=>by cases e)
theorem pV.setCell{L:List (Nat×Obj)}{W:World}(h:pV L W)(B:Nat)(u:Value)(hne:∀x∈L,x.1≠B):pV L (W.setCell B u):=h.grown (grownBy_setCell' W B u) (λx hx e=>hne x hx (by cases e;rfl))
theorem pV.not_row{L:List (Nat×Obj)}{W:World}{e:TypeId}(h:pV L W)(ht:∀x∈L,∀cs sp,x.2≠.cells cs e sp){aT size k:Nat}{v:Value}{xs:List Value}(hr:W.ownsRow aT e size v k xs):∀x∈L,some x.1≠v.ownBlock:=by
 intro x hx;rcases hr.2 with⟨rfl,_⟩|⟨g,cap,cur,rfl,_,hgb,_⟩
 ·simp[Value.ownBlock]
 ·intro e';obtain⟨i,o⟩:=x;obtain rfl:i=g:=by simpa[Value.ownBlock]using e'
  have h1:=h _ hx;simp only at h1
  rw[hgb]at h1
  exact ht _ hx _ _ (lF h1).symm
theorem pV.from_{β:Type}{B:Nat}{L:List (Nat×Obj)}(hB:∀x∈L,x.1<B):OwnFrom B (λ(_:β) W=>pV L W):=λ_ _ _ _ hs hg hr=>hs.grown hg (λx hx e=>by
 have:=(hr x.1 e.symm).1;have:=hB x hx;omega)
theorem Jz{W:World}{B j:Nat}{vs:Array Value}{t:TypeId}{v:Value}(h:W.heap[B]?=some (.cells vs t (0,0)))(hj:vs[j]?=some v):W.cell? ⟨B,j,none⟩=some v:=by
 simp[World.cell?,h,hj]
theorem qX{W:World}{o:Obj}{B:Nat}(h:B<W.heap.size):(W.alloc o).heap[B]?=W.heap[B]?:=oO W o B h
theorem oh{W:World}{o:Obj}{B:Nat}(h:B=W.heap.size):(W.alloc o).heap[B]?=some o:=by
 subst h;exact World.alloc_heap_new W o
theorem jkH{w:World}{a:Addr}{v:Value}(h:w.cell? a=some v):a.block<w.heap.size:=by
 by_cases hlt:a.block<w.heap.size
 ·exact hlt
 ·unfold World.cell? at h
  rw[iF (by omega)]at h
  simp at h
def jq2(n₀ Bo:Nat)(Qo:List Nat)(L:List (Nat×Obj))(W0:World)(pre:List Nat)(W:World):Prop:=
 ((∃u,Boxed W Bo 23 u/\Own iW 1 3 W n₀ u (yI (Qo++pre))/\True)/\pV L W)/\Below n₀ W0 W
theorem jfI(Q:Exit->Act->World->Prop)(ds:List Deferred)(W0:World)(Bo Bp Bf n₀:Nat)(u:Value)(Qo:List Nat)(L:List (Nat×Obj))(p:dG)(f:Bool)(Ab As:Option Addr)(cb cs:Nat)(hlb:p.dP.length<=6)(hl0:Qo.length<=6)
  (t0 t1 t2 t3 t4 t6 t7 t8 t9 t10 t11 t12 t13 t14 t15 t16 t17 t18 t19 t20 t21 t23 t24 t25 t26 t27 t28 t29:Value) (hn0:n₀<=W0.heap.size) (hBo:n₀<=Bo)
  (hp0:W0.cell? Bp=some (.slice Ab p.dP.length cb)) (hp1:W0.cell? ⟨Bp,1,none⟩=some (.slice As p.aW.length cs)) (hA:At W0 n₀ Ab (p.dP.flatMap Qv))
  (H9:Boxed W0 Bo 23 u) (mQ:Own iW 1 3 W0 n₀ u (yI Qo)) (hL:pV L W0) (hLf:(Bf,Obj.cells #[.bool f] 4 (0,0))∈L) (hLt:∀x∈L,∀cs sp,x.2≠.cells cs 3 sp) (hLo:∀x∈L,x.1≠Bo)
  (Ei:∀(D:Nat) (W:World),W0.heap.size<=D->jq2 n₀ Bo Qo L W0 (FV p f) W->W.heap[D]?=some (.deferred (some []))->Q .normal {tmps:=#[t0,t1,t2,t3,t4,.pointer (some Bo),t6,t7,t8,t9,t10,t11,t12,t13,t14,t15,t16,t17,t18,t19,t20,t21,.func (.func 153) #[] #[.pointer (some Bp),.pointer (some Bf)],t23,t24,t25,t26,t27,t28,t29],defers:={target:=.collected D,args:=#[]}::ds} W):
  (Code.rangeFunc (Operand.tmp 22) #[23] (Code.region 9 #[{ dst := some 8, op := Op.assign (Operand.tmp 23), type := 3, pos := "plan.go:45", after := #[], guard := none }] false)
   (Code.block 3 (Code.region 10 #[
    { dst := some 24, op := Op.load 23 (Operand.tmp 5), type := 23, pos := "plan.go:46", after := #[], guard := none },
    { dst := some 25, op := Op.move (Operand.tmp 8), type := 3, pos := "plan.go:46", after := #[], guard := none },
    { dst := some 26, op := Op.buildSlice 23 1 #[(0, Operand.tmp 25)], type := 23, pos := "plan.go:46", after := #[{ on := 1, ground := Ground.data }], guard := none },
    { dst := some 27, op := Op.call { callee := Callee.builtin Builtin.append, args := #[Operand.tmp 24, Operand.tmp 26], argTypes := #[23, 23] }, type := 23, pos := "plan.go:46", after := #[{ on := 0, ground := Ground.data }, { on := 2, ground := Ground.data }], guard := none },
    { dst := none, op := Op.store 23 (Operand.tmp 5) (Operand.tmp 27), type := 0, pos := "plan.go:46", after := #[{ on := 3, ground := Ground.data }, { on := 3, ground := Ground.chain }, { on := 0, ground := Ground.phase }, { on := 1, ground := Ground.phase }, { on := 2, ground := Ground.phase }, { on := 3, ground := Ground.phase }], guard := none }] false))).wpIn Fence.wide 5 prog Q
   {tmps:=#[t0,t1,t2,t3,t4,.pointer (some Bo),t6,t7,t8,t9,t10,t11,t12,t13,t14,t15,t16,t17,t18,t19,t20,t21,.func (.func 153) #[] #[.pointer (some Bp),.pointer (some Bf)],t23,t24,t25,t26,t27,t28,t29],defers:=ds} W0:=by
 have bF:W0.cell? Bf=some (.bool f):=Boxed.cell (hL _ hLf);have hBf:Bf<W0.heap.size:=hL.lt _ hLf;have jvj:Bp<W0.heap.size:=jkH hp0;refine wpIn_rangeFunc_ownG rfl (by omega) (gf:=153) (lb:=#[.pointer (some Bp),.pointer (some Bf)]) rfl trivial (enters_of func153 (by kernel_rfl) rfl)
  (jfF Fence.wide (5 - 1) trivial rfl (by omega) Bp Bf n₀ p f Ab As cb cs hlb W0 hn0 jvj hBf hp0 hp1 bF hA)
  (λh k=>⟨h.1.trans k.1,k.2.trans h.2⟩)
  (λW l o o' hl ho hc hw=>⟨belowK_b hn0 W l o o' hl ho hc hw,((aj W0 W).grown (grownBy_putObj' W l o') (by have:=(bI.1 ho).1;omega) (λk e=>by cases e;exact hl)).cell (p:=Bf) hBf⟩)
  (aj _ _) (λ_=>rfl)
  (jq2 n₀ Bo Qo L W0)
  (λ_ _ _=>False)
  (OwnFrom.and (OwnFrom.and (Own.from (holdsRow_own n₀ Bo 23 3 1 (λpre=>(yI (Qo++pre)).length) (λpre=>(yI (Qo++pre)).flatMap iW) (λ_ _=>True)) _) (pV.from_ hL.lt)) (ownFrom_below hn0 hn0))
  (λ_ _ _ _ _ hs _ _=>hs)
  ⟨⟨⟨u,H9,by simpa using mQ,trivial⟩,hL⟩,aj _ _⟩
  (λx=>{tmps:=#[t0,t1,t2,t3,t4,.pointer (some Bo),t6,t7,.int .i64 ((x:Nat):Int),t9,t10,t11,t12,t13,t14,t15,t16,t17,t18,t19,t20,t21,.func (.func 153) #[] #[.pointer (some Bp),.pointer (some Bf)],.int .i64 ((x:Nat):Int),t24,t25,t26,t27,t28,t29],defers:=[]}) ?assign ?body ?done ?stop
 case assign=>
  intro l x W K hK;gi_wp2
  exact hK
 case body=>
  rintro l pre x W ⟨⟨⟨v,hv,wK,_⟩,hH⟩,hB⟩ hlt;have hc:=hv.cell;have lZ:(yI (Qo++pre)).length<=12:=by rw[D5,aX];omega
  obtain⟨i0,hi,hz0,hz1,hz2⟩:=Ls (P:=prog) (e:=3) (z:=zI) (size:=1) (bytes:=8) (by kernel_rfl)
  have u23:prog.underlying 23=some (.slice 3):=by kernel_rfl
  gi_wp2_with (gi_at_builtin;refine wpListIn_append_own _ rfl _ _ 23 rfl n₀ 3 i0 (zI) 1 8 u23 hi hz0 hz1 hz2 rfl (by decide) _ _ _ rfl (DI wK _) W 1 1 [.int .i64 ((x:Nat):Int)] rfl rfl (cell_one_new _ _ _) (by simp[Value.oneCell']) (by unfold maxLen;omega) (by omega) (by have:=hB.size;simp;omega) ?_;intro v' w1 hown' hgrow _;obtain⟨g',cap',rfl⟩:=ownsRow_succ hown';obtain⟨hv1,hv2,hr2,hk2,hb2⟩:=hv.appended (by decide) wK (aU hn0 hB.size) hBo hown' hgrow;have hc1:=hv1.cell;have hf1:=hv1.frozen)
  have hH':=((hH.alloc _).grown hgrow (hH.not_row hLt wK)).setCell Bo (.slice (some g') ((yI (Qo++pre)).length+1) cap') hLo;refine⟨hk2.from _,⟨hb2,(Boxed.cell (hH' _ hLf)).trans (Boxed.cell (hH _ hLf)).symm⟩,⟨⟨_,hv2,?_,trivial⟩,hH'⟩,hB.trans hb2⟩
  unfold Own;have e1:yI (Qo++(pre++[x]))=yI (Qo++pre)++[(x:Int)]:=by simp[yI]
  have e2:(yI (Qo++pre)++[(x:Int)]).length=(yI (Qo++pre)).length+1:=by simp
  have e3:(yI (Qo++pre)++[(x:Int)]).flatMap iW=(yI (Qo++pre)).flatMap iW++[.int .i64 ((x:Nat):Int)]:=by rw[gQ];simp[iW]
  rw[e1,e2,e3];exact hr2
 case done=>
  rintro D ys W hD rfl hI hK;exact Ei D W hD hI hK
 case stop=>
  rintro D c pre W _ _ h _;exact h.elim
theorem jem(w:World)(v:Value)(p:dG)(hp:kK w w v p):
  Calls prog 147 #[v] w λe w'=>∃u,e=.returned (.tuple #[u,(fU p)])/\Own iW 1 3 w' w u (if fU p=0 then yI (way p)else [])/\Below w w w':=by
 have hP:=hp;obtain⟨_,_,rfl,⟨Ab,cb,rfl,hlb,hb⟩,⟨As,cs,rfl,hls,hs⟩⟩:=hp;have hb0:Below w w (w.alloc (kD p Ab cb As cs)):=(aj _ _).alloc (ay _) _;refine(iy (n:=5)).1 ?_
 refine callsIn_of_wp_marks func147 rfl trivial ?_ rfl
 simp only[ntmps147,iR,bP,dQ,Nat.reduceAdd,Nat.reduceSub,gW,iG,jh,iM,fJ,gG];gi_wp2_with fail
 refine⟨trivial,(iy.2 (PZ _ _ p (hP.grow hb0))).mono ?_⟩
 rintro e W1 ⟨rfl,hb1⟩;have hbw:=fD hb0 hb1;obtain⟨hc1,hf1⟩:=yt hb1;have hlt1:w.heap.size<W1.heap.size:=by have:=hb1.size;simp at this;omega
 by_cases hz:fU p=0
 ·gi_wp2
  refine wpIn_loop_rounds 3 ?_
  rw[roundsIn_succ];gi_wp2_with fail
  refine⟨trivial,(VR Fence.wide 4 trivial rfl _ _ _ _).mono ?_⟩
  rintro e W2 ⟨rfl,rfl⟩;simp only[dK];gi_wp2_with fail
  have q0:=Boxed.new W1 23 (nS);have q1:=World.alloc_heap_new (W1.alloc (.cells #[nS] 23)) (.cells #[.bool true,.bool false] 4);refine jfI _ _ _ W1 (W1.heap.size+1+1) (W1.heap.size+1+1+1) W1 (nS) [] [(W1.heap.size+1+1+1,.cells #[.bool true] 4 (0,0)),(W1.heap.size+1,.cells #[.bool true,.bool false] 4 (0,0))] p true Ab As cb cs (oI hz).2.1 (by simp) _ _ _ _ _ _ _ _ _ _ _ _ _ _ _ _ _ _ _ _ _ _ _ _ _ _ _ _ (by simp;omega) (ay _) ?a0 ?a1 ?a2 ?a3 ?a4 ?a5 ?a6 ?a7 ?a8 ?a9
  case a0=>exact Jz ((qX (by simp)).trans (oh (by simp))) rfl
  case a1=>exact Jz ((qX (by simp)).trans (oh (by simp))) rfl
  case a2=>exact(hb.up hb0 hb0.size).up hb1 hb1.size|>.up (((((aj _ _).alloc (ay _) _).alloc (by simp) _).alloc (by simp;omega) _).alloc (by simp;omega) _) (ay _)
  case a3=>exact((q0.alloc _).alloc _).alloc _
  case a4=>exact Own.nil
  case a5=>
   intro x hx;simp at hx
   rcases hx with rfl|rfl
   ·exact oh (by simp)
   ·exact(qX (by simp)).trans ((qX (by simp)).trans (oh (by simp)))
  case a6=>simp
  case a7=>
   intro x hx cs sp e;simp at hx
   rcases hx with rfl|rfl<;>simp at e
  case a8=>
   intro x hx;simp at hx
   rcases hx with rfl|rfl
   ·show W1.heap.size+1+1+1≠W1.heap.size;omega
   ·show W1.heap.size+1≠W1.heap.size;omega
  case a9=>
   intro D W hD hI hK;obtain⟨⟨⟨u,hu,mQ,_⟩,hH⟩,hB⟩:=hI;have hB1:Below W1 W1 W:=jZ (((((aj _ _).alloc (ay _) _).alloc (by simp) _).alloc (by simp;omega) _).alloc (by simp;omega) _) hB
   have z1:W.cell? w=some (.slice Ab p.dP.length cb):=(hB1.cell (p:=w) hlt1).trans ((hc1 w 0 (by simp)).trans (by simp))
   have z2:W.cell? ⟨w.heap.size,1,none⟩=some (.slice As p.aW.length cs):=(hB1.cell (p:=⟨w.heap.size,1,none⟩) hlt1).trans ((hc1 w 1 (by simp)).trans (by simp))
   have g1:W.cell? ⟨W1.heap.size+1,1,none⟩=some (.bool false):=by
    have:=hH (W1.heap.size+1,.cells #[.bool true,.bool false] 4 (0,0)) (by simp)
    simp only at this
    simp[World.cell?,this]
   simp at hD
   gi_wp2
   rw[roundsIn_succ];gi_wp2_with fail
   refine⟨trivial,(VR Fence.wide 4 trivial rfl _ _ _ _).mono ?_⟩
   rintro e W2 ⟨rfl,rfl⟩;gi_wp2_with fail
   have hWs:W1.heap.size<=W.heap.size:=hB1.size;have hDl:=(bI.1 hK).1
   have hul:=hu.lt;refine jfI _ _ _ W1 W.heap.size (W.heap.size+1) W1 u (FV p true) [(W.heap.size+1,.cells #[.bool false] 4 (0,0)),(D,.deferred (some []))] p false Ab As cb cs (oI hz).2.1 (aU (Ea p true p.dP.length) (oI hz).2.1) _ _ _ _ _ _ _ _ _ _ _ _ _ _ _ _ _ _ _ _ _ _ _ _ _ _ _ _ (by simp;omega) (ay _) ?b0 ?b1 ?b2 ?b3 ?b4 ?b5 ?b6 ?b7 ?b8 ?b9
   case b0=>exact Jz ((qX (by simp)).trans (oh rfl)) rfl
   case b1=>exact Jz ((qX (by simp)).trans (oh rfl)) rfl
   case b2=>exact((hb.up hb0 hb0.size).up hb1 hb1.size|>.up hB1 (ay _)).up (((aj _ _).alloc hWs _).alloc (by simp;omega) _) (ay _)
   case b3=>exact(hu.alloc _).alloc _
   case b4=>exact(by simpa using mQ:Own iW 1 3 W W1 u (yI (FV p true)))|>.alloc _|>.alloc _
   case b5=>
    intro x hx;simp at hx
    rcases hx with rfl|rfl
    ·exact oh (by simp)
    ·exact(qX (by simp;omega)).trans ((qX hDl).trans hK)
   case b6=>simp
   case b7=>
    intro x hx cs sp e;simp at hx
    rcases hx with rfl|rfl<;>simp at e
   case b8=>
    intro x hx;simp at hx
    rcases hx with rfl|rfl
    ·show W.heap.size+1≠W1.heap.size;omega
    ·show D≠W1.heap.size;omega
   case b9=>
    intro D2 W3 hD2 hI2 hK2;obtain⟨⟨⟨u2,hu2,AZ,_⟩,hH2⟩,hB2⟩:=hI2;have hKD:=hH2 (D,.deferred (some [])) (by simp)
    have hc2:=hu2.cell;simp at hD2
    gi_wp2
    rw[roundsIn_succ];gi_wp2
    have hne:D≠D2:=by omega
    have jph:(W3.putObj D2 (.deferred none)).heap[D]?=some (.deferred (some [])):=(World.putObj_heap_other hne).trans hKD;have hB3:Below W1 W1 W3:=hB1.trans ((((aj _ _).alloc hWs _).alloc (by simp;omega) _).trans hB2)
    have hB4:Below W1 W1 (W3.putObj D2 (.deferred none)):=hB3.trans (belowK_b (ay _) W3 D2 _ _ (by omega) hK2 rfl rfl)
    have YV:Below W1 W1 ((W3.putObj D2 (.deferred none)).putObj D (.deferred none)):=hB4.trans (belowK_b (ay _) _ D _ _ (by omega) jph rfl rfl)
    have hown5:Own iW 1 3 ((W3.putObj D2 (.deferred none)).putObj D (.deferred none)) W1 u2 (yI (way p)):=ownsRow_putObj (ownsRow_putObj AZ _ hK2 rfl) _ jph rfl;refine⟨by simp,.inl ⟨_,_,rfl,run_takeDeferred hK2,?_⟩⟩
    refine⟨by simp,.inl ⟨_,_,rfl,run_takeDeferred jph,?_⟩⟩
    refine⟨_,by simp[results,results147,go_sem],u2,rfl,hown5.from_ hbw.size,fD hbw YV⟩
 ·have hzb:(fU p !=0)=true:=by simpa using hz
  have hzf:(fU p==0)=false:=by simpa using hz
  gi_wp2
  refine⟨_,by simp[results,results147,go_sem],_,rfl,Own.nil,hbw⟩
end
end Wh
