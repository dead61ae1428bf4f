/- Texts of the claim, joined. -/
import Derived.Laws.Tables
import Derived.Test.YtfhfkijmebhgmaaGreatQ19
set_option maxHeartbeats 20000000
set_option maxRecDepth 100000
namespace Wh
open Go Go.RowKit Go.Shelf Go.Proofs Tryz
attribute [local go_sem] au
attribute [local go_sem] Oper.semAt_some
def iR (L:List (Nat×Obj)) (W:World):Prop:=∀ x∈L,W.heap[x.1]?=some x.2
theorem iR.lt {L:List (Nat×Obj)} {W:World} (h:iR L W):∀ x∈L,x.1<W.heap.size:=fun x hx=>(gX.1 (h x hx)).1
theorem iR.grown {L:List (Nat×Obj)} {W W':World} {row:Option Nat} (h:iR L W) (hg:W.grownBy W' row) (hne:∀ x∈L,some x.1≠row):iR L W':=fun x hx=>(hg.block x.1 (h.lt x hx) (hne x hx)).trans (h x hx)
theorem iR.alloc {L:List (Nat×Obj)} {W:World} (h:iR L W) (o:Obj):iR L (W.alloc o):=h.grown (D9 W o none) (fun _ _ e=>by cases e)
theorem iR.setCell {L:List (Nat×Obj)} {W:World} (h:iR L W) (B:Nat) (u:Value) (hne:∀ x∈L,x.1≠B):iR L (W.setCell ⟨B,0,none⟩ u):=h.grown (grownBy_setCell' W B u) (fun x hx e=>hne x hx (by cases e;rfl))
theorem iR.not_row {L:List (Nat×Obj)} {W:World} {e:TypeId} (h:iR L W) (ht:∀ x∈L,∀ cs sp,x.2≠.cells cs e sp) {base size k:Nat} {v:Value} {xs:List Value} (hr:W.ownsRow base e size v k xs):∀ x∈L,some x.1≠v.ownBlock:=by
 intro x hx;rcases hr.2 with ⟨rfl,_⟩|⟨g,cap,cur,rfl,_,hgb,_⟩
 ·simp [Value.ownBlock]
 ·intro e';obtain ⟨i,o⟩:=x;obtain rfl:i=g:=by simpa [Value.ownBlock] using e'
  have h1:=h _ hx;simp only at h1
  rw [hgb] at h1
  exact ht _ hx _ _ (gB h1).symm
theorem iR.from_ {β:Type} {B:Nat} {L:List (Nat×Obj)} (hB:∀ x∈L,x.1<B):OwnFrom B (fun (_:β) W=>iR L W):=fun _ _ _ _ hs hg hr=>hs.grown hg (fun x hx e=>by
 have:=(hr x.1 e.symm).1;have:=hB x hx;omega)
theorem cell_of_heap {W:World} {B j:Nat} {vs:Array Value} {t:TypeId} {v:Value} (h:W.heap[B]?=some (.cells vs t (0,0))) (hj:vs[j]?=some v):W.cell? ⟨B,j,none⟩=some v:=by
 simp [World.cell?,h,hj]
theorem heap_alloc_old {W:World} {o:Obj} {B:Nat} (h:B<W.heap.size):(W.alloc o).heap[B]?=W.heap[B]?:=LK W o B h
theorem iq {W:World} {o:Obj} {B:Nat} (h:B=W.heap.size):(W.alloc o).heap[B]?=some o:=by
 subst h;exact World.alloc_heap_new W o
theorem jg8 {w:World} {a:Addr} {v:Value} (h:w.cell? a=some v):a.block<w.heap.size:=by
 by_cases hlt:a.block<w.heap.size
 ·exact hlt
 ·unfold World.cell? at h
  rw [qh (by omega)] at h
  simp at h
def jne (n₀ Bo:Nat) (Jq:List Nat) (L:List (Nat×Obj)) (W0:World) (pre:List Nat) (W:World):Prop:=
 ((∃ u,Boxed W Bo 23 u∧Own dY 1 3 W n₀ u (oq (Jq++pre))∧True)∧iR L W)∧Below n₀ W0 W
theorem jcf (Q:Exit→Act→World→Prop) (ds:List Deferred) (W0:World) (Bo Bp Bf n₀:Nat) (u:Value) (Jq:List Nat) (L:List (Nat×Obj)) (p:Plan) (f:Bool) (Ab As:Option Addr) (cb cs:Nat) (hlb:p.aH.length≤6) (hl0:Jq.length≤6)
  (t0 t1 t2 t3 t4 t6 t7 t8 t9 t10 t11 t12 t13 t14 t15 t16 t17 t18 t19 t20 t21 t23 t24 t25 t26 t27 t28 t29:Value) (hn0:n₀≤W0.heap.size) (hBo:n₀≤Bo)
  (hp0:W0.cell? ⟨Bp,0,none⟩=some (.slice Ab p.aH.length cb)) (hp1:W0.cell? ⟨Bp,1,none⟩=some (.slice As p.sizes.length cs)) (hA:At W0 n₀ Ab (p.aH.flatMap Jv))
  (hbox:Boxed W0 Bo 23 u) (hown:Own dY 1 3 W0 n₀ u (oq Jq)) (hL:iR L W0) (hLf:(Bf,Obj.cells #[.bool f] 4 (0,0))∈L) (hLt:∀ x∈L,∀ cs sp,x.2≠.cells cs 3 sp) (hLo:∀ x∈L,x.1≠Bo)
  (hdone:∀ (D:Nat) (W:World),W0.heap.size≤D→jne n₀ Bo Jq L W0 (kinds p f) W→W.heap[D]?=some (.deferred (some []))→Q .normal {tmps:=#[t0,t1,t2,t3,t4,.pointer (some ⟨Bo,0,none⟩),t6,t7,t8,t9,t10,t11,t12,t13,t14,t15,t16,t17,t18,t19,t20,t21,.func (.func 156) #[] #[.pointer (some ⟨Bp,0,none⟩),.pointer (some ⟨Bf,0,none⟩)],t23,t24,t25,t26,t27,t28,t29],defers:={target:=.collected D,args:=#[]}::ds} W):
  (Code.rangeFunc (Operand.tmp 22) #[23] (Code.region 9 #[{ dst := some 8, op := Op.assign (Operand.tmp 23), type := 3, pos := "plan.go:45", after := #[], guard := none }] false)
   (Code.block 3 (Code.region 10 #[
    { dst := some 24, op := Op.load 23 (Operand.tmp 5), type := 23, pos := "plan.go:46", after := #[], guard := none },
    { dst := some 25, op := Op.move (Operand.tmp 8), type := 3, pos := "plan.go:46", after := #[], guard := none },
    { dst := some 26, op := Op.buildSlice 23 1 #[(0, Operand.tmp 25)], type := 23, pos := "plan.go:46", after := #[{ on := 1, ground := Ground.data }], guard := none },
    { dst := some 27, op := Op.call { callee := Callee.builtin Builtin.append, args := #[Operand.tmp 24, Operand.tmp 26], argTypes := #[23, 23] }, type := 23, pos := "plan.go:46", after := #[{ on := 0, ground := Ground.data }, { on := 2, ground := Ground.data }], guard := none },
    { dst := none, op := Op.store 23 (Operand.tmp 5) (Operand.tmp 27), type := 0, pos := "plan.go:46", after := #[{ on := 3, ground := Ground.data }, { on := 3, ground := Ground.chain }, { on := 0, ground := Ground.phase }, { on := 1, ground := Ground.phase }, { on := 2, ground := Ground.phase }, { on := 3, ground := Ground.phase }], guard := none }] false))).wpIn Fence.wide 5 prog Q
   {tmps:=#[t0,t1,t2,t3,t4,.pointer (some ⟨Bo,0,none⟩),t6,t7,t8,t9,t10,t11,t12,t13,t14,t15,t16,t17,t18,t19,t20,t21,.func (.func 156) #[] #[.pointer (some ⟨Bp,0,none⟩),.pointer (some ⟨Bf,0,none⟩)],t23,t24,t25,t26,t27,t28,t29],defers:=ds} W0:=by
 have bF:W0.cell? ⟨Bf,0,none⟩=some (.bool f):=Boxed.cell (hL _ hLf);have Zu:Bf<W0.heap.size:=hL.lt _ hLf;have jrb:Bp<W0.heap.size:=jg8 hp0;refine wpIn_rangeFunc_ownG rfl (by omega) (gf:=156) (lb:=#[.pointer (some ⟨Bp,0,none⟩),.pointer (some ⟨Bf,0,none⟩)]) rfl bP (enters_of func156 (by kernel_rfl) rfl)
  (jcb Fence.wide (5 - 1) bP rfl (by omega) Bp Bf n₀ p f Ab As cb cs hlb W0 hn0 jrb Zu hp0 hp1 bF hA)
  (fun h k=>⟨h.1.trans k.1,k.2.trans h.2⟩)
  (fun W l o o' hl ho hc hw=>⟨belowK_b hn0 W l o o' hl ho hc hw,((aj W0.heap.size W).grown (grownBy_putObj' W l o') (by have:=(gX.1 ho).1;omega) (fun k e=>by cases e;exact hl)).cell (p:=⟨Bf,0,none⟩) Zu⟩)
  (aj _ _) (fun _=>rfl)
  (jne n₀ Bo Jq L W0)
  (fun _ _ _=>False)
  (OwnFrom.and (OwnFrom.and (Own.from (holdsRow_own n₀ Bo 23 3 1 (fun pre=>(oq (Jq++pre)).length) (fun pre=>(oq (Jq++pre)).flatMap dY) (fun _ _=>True)) _) (iR.from_ hL.lt)) (ownFrom_below hn0 hn0))
  (fun _ _ _ _ _ hs _ _=>hs)
  ⟨⟨⟨u,hbox,by simpa using hown,bP⟩,hL⟩,aj _ _⟩
  (fun x=>{tmps:=#[t0,t1,t2,t3,t4,.pointer (some ⟨Bo,0,none⟩),t6,t7,.int .i64 ((x:Nat):Int),t9,t10,t11,t12,t13,t14,t15,t16,t17,t18,t19,t20,t21,.func (.func 156) #[] #[.pointer (some ⟨Bp,0,none⟩),.pointer (some ⟨Bf,0,none⟩)],.int .i64 ((x:Nat):Int),t24,t25,t26,t27,t28,t29],defers:=[]}) ?assign ?body ?done ?stop
 case assign=>
  intro l x W K hK;gi_wp2
  exact hK
 case body=>
  rintro l pre x W ⟨⟨⟨v,hv,hrow,_⟩,hH⟩,hB⟩ hlt;have hc:=hv.cell;have hlen:(oq (Jq++pre)).length≤12:=by rw [sD,dK];omega
  obtain ⟨i0,hi,hz0,hz1,hz2⟩:=Af (P:=prog) (e:=3) (z:=.int .i64 0) (size:=1) (bytes:=8) (by kernel_rfl)
  have u23:prog.underlying 23=some (.slice 3):=by kernel_rfl
  gi_wp2_with (gi_at_builtin;refine wpListIn_append_own _ rfl _ _ 23 rfl n₀ 3 i0 (.int .i64 0) 1 8 u23 hi hz0 hz1 hz2 rfl (by decide) _ _ _ rfl (Xu hrow _) ⟨W.heap.size,0,none⟩ 1 1 [.int .i64 ((x:Nat):Int)] rfl rfl (cell_one_new _ _ _) (by simp [Value.oneCell']) (by unfold maxLen;omega) (by omega) (by have:=hB.size;simp;omega) ?_;intro v' w1 hown' hgrow _;obtain ⟨g',cap',rfl⟩:=ownsRow_succ hown';obtain ⟨hv1,hv2,hr2,hk2,hb2⟩:=hv.appended (by decide) hrow (bJ hn0 hB.size) hBo hown' hgrow;have hc1:=hv1.cell;have hf1:=hv1.frozen)
  have hH':=((hH.alloc _).grown hgrow (hH.not_row hLt hrow)).setCell Bo (.slice (some ⟨g',0,none⟩) ((oq (Jq++pre)).length+1) cap') hLo;refine ⟨hk2.from _,⟨hb2,(Boxed.cell (hH' _ hLf)).trans (Boxed.cell (hH _ hLf)).symm⟩,⟨⟨_,hv2,?_,bP⟩,hH'⟩,hB.trans hb2⟩
  unfold Own;have e1:oq (Jq++(pre++[x]))=oq (Jq++pre)++[(x:Int)]:=by simp [oq]
  have e2:(oq (Jq++pre)++[(x:Int)]).length=(oq (Jq++pre)).length+1:=by simp
  have e3:(oq (Jq++pre)++[(x:Int)]).flatMap dY=(oq (Jq++pre)).flatMap dY++[.int .i64 ((x:Nat):Int)]:=by rw [lD];simp [dY]
  rw [e1,e2,e3];exact hr2
 case done=>
  rintro D ys W hD rfl hI hK;exact hdone D W hD hI hK
 case stop=>
  rintro D c pre W _ _ h _;exact h.elim
theorem jaR (w:World) (v:Value) (p:Plan) (hp:fZ w w.heap.size v p):
  Calls prog 123 #[v] w fun e w'=>∃ u,e=.returned (.tuple #[u,.int .i64 (bK p)])∧Own dY 1 3 w' w.heap.size u (if bK p=0 then oq (way p) else [])∧Below w.heap.size w w':=by
 have hP:=hp;obtain ⟨_,_,rfl,⟨Ab,cb,rfl,hlb,hb⟩,⟨As,cs,rfl,hls,hs⟩⟩:=hp;have hb0:Below w.heap.size w (w.alloc (.cells #[.slice Ab p.aH.length cb,.slice As p.sizes.length cs] 25)):=(aj _ _).alloc (aA _) _;refine (kD (n:=5)).1 ?_
 refine callsIn_of_wp_marks func123 rfl bP ?_ rfl
 simp only [ntmps123,qN,gQ,je,Nat.reduceAdd,Nat.reduceSub,rW,rV,rM,rQ,lq,qg];gi_wp2_with fail
 refine ⟨bP,(kD.2 (I8 _ _ p (hP.grow hb0))).mono ?_⟩
 rintro e W1 ⟨rfl,hb1⟩;have hbw:=hb0.trans (hb1.mono hb0.size);obtain ⟨hc1,hf1⟩:=nP hb1;have hlt1:w.heap.size<W1.heap.size:=by have:=hb1.size;simp at this;omega
 by_cases hz:bK p=0
 ·gi_wp2
  refine wpIn_loop_rounds 3 ?_
  rw [roundsIn_succ];gi_wp2_with fail
  refine ⟨bP,(Pg Fence.wide 4 bP rfl _ _ _ _).mono ?_⟩
  rintro e W2 ⟨rfl,rfl⟩;simp only [fP];gi_wp2_with fail
  have q0:=Boxed.new W1 23 (.slice none 0 0);have q1:=World.alloc_heap_new (W1.alloc (.cells #[.slice none 0 0] 23)) (.cells #[.bool true,.bool false] 4);refine jcf _ _ _ W1.heap.size (W1.heap.size+1+1) (W1.heap.size+1+1+1) W1.heap.size (.slice none 0 0) [] [(W1.heap.size+1+1+1,.cells #[.bool true] 4 (0,0)),(W1.heap.size+1,.cells #[.bool true,.bool false] 4 (0,0))] p true Ab As cb cs (jC hz).2.1 (by simp) _ _ _ _ _ _ _ _ _ _ _ _ _ _ _ _ _ _ _ _ _ _ _ _ _ _ _ _ (by simp;omega) (aA _) ?a0 ?a1 ?a2 ?a3 ?a4 ?a5 ?a6 ?a7 ?a8 ?a9
  case a0=>exact cell_of_heap ((heap_alloc_old (by simp)).trans (iq (by simp))) rfl
  case a1=>exact cell_of_heap ((heap_alloc_old (by simp)).trans (iq (by simp))) rfl
  case a2=>exact (hb.up hb0 hb0.size).up hb1 hb1.size|>.up (((((aj _ _).alloc (aA _) _).alloc (by simp) _).alloc (by simp;omega) _).alloc (by simp;omega) _) (aA _)
  case a3=>exact ((q0.alloc _).alloc _).alloc _
  case a4=>exact Own.nil
  case a5=>
   intro x hx;simp at hx
   rcases hx with rfl|rfl
   ·exact iq (by simp)
   ·exact (heap_alloc_old (by simp)).trans ((heap_alloc_old (by simp)).trans (iq (by simp)))
  case a6=>simp
  case a7=>
   intro x hx cs sp e;simp at hx
   rcases hx with rfl|rfl<;>simp at e
  case a8=>
   intro x hx;simp at hx
   rcases hx with rfl|rfl
   ·show W1.heap.size+1+1+1≠W1.heap.size;omega
   ·show W1.heap.size+1≠W1.heap.size;omega
  case a9=>
   intro D W hD hI hK;obtain ⟨⟨⟨u,hu,hown,_⟩,hH⟩,hB⟩:=hI;have hB1:Below W1.heap.size W1 W:=Below.trans (((((aj _ _).alloc (aA _) _).alloc (by simp) _).alloc (by simp;omega) _).alloc (by simp;omega) _) hB
   have z1:W.cell? ⟨w.heap.size,0,none⟩=some (.slice Ab p.aH.length cb):=(hB1.cell (p:=⟨w.heap.size,0,none⟩) hlt1).trans ((hc1 w.heap.size 0 (by simp)).trans (by simp))
   have z2:W.cell? ⟨w.heap.size,1,none⟩=some (.slice As p.sizes.length cs):=(hB1.cell (p:=⟨w.heap.size,1,none⟩) hlt1).trans ((hc1 w.heap.size 1 (by simp)).trans (by simp))
   have g1:W.cell? ⟨W1.heap.size+1,1,none⟩=some (.bool false):=by
    have:=hH (W1.heap.size+1,.cells #[.bool true,.bool false] 4 (0,0)) (by simp)
    simp only at this
    simp [World.cell?,this]
   simp at hD
   gi_wp2
   rw [roundsIn_succ];gi_wp2_with fail
   refine ⟨bP,(Pg Fence.wide 4 bP rfl _ _ _ _).mono ?_⟩
   rintro e W2 ⟨rfl,rfl⟩;gi_wp2_with fail
   have hWs:W1.heap.size≤W.heap.size:=hB1.size;have hDl:=(gX.1 hK).1
   have hul:=hu.lt;refine jcf _ _ _ W1.heap.size W.heap.size (W.heap.size+1) W1.heap.size u (kinds p true) [(W.heap.size+1,.cells #[.bool false] 4 (0,0)),(D,.deferred (some []))] p false Ab As cb cs (jC hz).2.1 (bJ (sH p true p.aH.length) (jC hz).2.1) _ _ _ _ _ _ _ _ _ _ _ _ _ _ _ _ _ _ _ _ _ _ _ _ _ _ _ _ (by simp;omega) (aA _) ?b0 ?b1 ?b2 ?b3 ?b4 ?b5 ?b6 ?b7 ?b8 ?b9
   case b0=>exact cell_of_heap ((heap_alloc_old (by simp)).trans (iq rfl)) rfl
   case b1=>exact cell_of_heap ((heap_alloc_old (by simp)).trans (iq rfl)) rfl
   case b2=>exact ((hb.up hb0 hb0.size).up hb1 hb1.size|>.up hB1 (aA _)).up (((aj _ _).alloc hWs _).alloc (by simp;omega) _) (aA _)
   case b3=>exact (hu.alloc _).alloc _
   case b4=>exact (by simpa using hown:Own dY 1 3 W W1.heap.size u (oq (kinds p true)))|>.alloc _|>.alloc _
   case b5=>
    intro x hx;simp at hx
    rcases hx with rfl|rfl
    ·exact iq (by simp)
    ·exact (heap_alloc_old (by simp;omega)).trans ((heap_alloc_old hDl).trans hK)
   case b6=>simp
   case b7=>
    intro x hx cs sp e;simp at hx
    rcases hx with rfl|rfl<;>simp at e
   case b8=>
    intro x hx;simp at hx
    rcases hx with rfl|rfl
    ·show W.heap.size+1≠W1.heap.size;omega
    ·show D≠W1.heap.size;omega
   case b9=>
    intro D2 W3 hD2 hI2 hK2;obtain ⟨⟨⟨u2,hu2,hown2,_⟩,hH2⟩,hB2⟩:=hI2;have hKD:=hH2 (D,.deferred (some [])) (by simp)
    have hc2:=hu2.cell;simp at hD2
    gi_wp2
    rw [roundsIn_succ];gi_wp2
    have hne:D≠D2:=by omega
    have jls:(W3.putObj D2 (.deferred none)).heap[D]?=some (.deferred (some [])):=(World.putObj_heap_other hne).trans hKD;have hB3:Below W1.heap.size W1 W3:=hB1.trans ((((aj _ _).alloc hWs _).alloc (by simp;omega) _).trans hB2)
    have hB4:Below W1.heap.size W1 (W3.putObj D2 (.deferred none)):=hB3.trans (belowK_b (aA _) W3 D2 _ _ (by omega) hK2 rfl rfl)
    have hB5:Below W1.heap.size W1 ((W3.putObj D2 (.deferred none)).putObj D (.deferred none)):=hB4.trans (belowK_b (aA _) _ D _ _ (by omega) jls rfl rfl)
    have hown5:Own dY 1 3 ((W3.putObj D2 (.deferred none)).putObj D (.deferred none)) W1.heap.size u2 (oq (way p)):=ownsRow_putObj (ownsRow_putObj hown2 _ hK2 rfl) _ jls rfl;refine ⟨by simp,.inl ⟨_,_,rfl,run_takeDeferred hK2,?_⟩⟩
    refine ⟨by simp,.inl ⟨_,_,rfl,run_takeDeferred jls,?_⟩⟩
    refine ⟨_,by simp [results,results123,go_sem],u2,rfl,hown5.from_ hbw.size,hbw.trans (hB5.mono hbw.size)⟩
 ·have hzb:(bK p!=0)=true:=by simpa using hz
  have hzf:(bK p==0)=false:=by simpa using hz
  gi_wp2
  refine ⟨_,by simp [results,results123,go_sem],_,rfl,Own.nil,hbw⟩
end Wh
namespace Wh
open Go Go.RowKit Go.Shelf Go.Proofs Tryz
attribute [local go_sem] au
section
variable {p:Plan} {s:State} {o k b:Nat} {m:Int}
theorem jhn (h:Right p s) (f:Fits p s o k b m):add s.holds ⟨o,k,b,m⟩=((kC s o k b m).holds,0):=by
 have h1:=h.sane.holds;have hkey:=Cb h.sane f.ho f.hk f.hb;obtain ⟨k1,k2⟩:=EK h f;have hf:eX ⟨o,k,b,m⟩=true:=gG.2 ⟨hkey,by have:=f.m1;simp only;omega⟩
 unfold add;rw [h1,hf,ah (by simp),ah (by simp)]
 simp only;rw [ah (by omega)]
 rfl
end
theorem V4 {l:List Nat} {j:Nat} (hj:j<l.length):aC (oq l) j=(l[j]:Int):=by
 unfold aC oq;simp [hj]
theorem drop_at {l:List Nat} {j:Nat} (hj:j<l.length):l.drop j=l[j]::l.drop (j+1):=wO hj
theorem aO.jV {w:World} {base:Nat} {V:SV} {s:State} (h:aO w base V s) {o k:Nat} (ho:o<s.orders.length) (hk:k<(s.order o).lines.length) {gl n c:Nat} (hv:V.line o=.slice (some ⟨gl,0,none⟩) n c):gl<w.heap.size∧
  w.cell? ⟨gl,k*4,none⟩=some (.int .i64 (s.line o k).good)∧w.cell? ⟨gl,k*4+1,none⟩=some (.int .i64 (s.line o k).want)∧w.cell? ⟨gl,k*4+2,none⟩=some (.int .i64 (s.line o k).got)∧w.cell? ⟨gl,k*4+3,none⟩=some (.int .i64 (s.line o k).back):=by
 obtain ⟨g',c',cur,e1,_,e3,f⟩:=h.bH ho hk;rw [hv] at e1
 injection e1 with e1
 injection e1 with e1
 injection e1 with e1
 subst e1;exact ⟨e3.lt,f⟩
def jhq (p:Plan) (s:State) (o k:Nat) (n but:Int) (w:World) (base b:Nat) (t:TypeId) (rst:List Value) (V:SV) (e:Ending) (w':World):Prop:=
 e=.returned (.int .i64 (ji p s o k n but).2)∧∃ V',V'={V with holds:=V'.holds}∧Bx w' base b t rst V' (ji p s o k n but).1∧Step (fun j=>j=b∨(V.line o).ownBlock=some j) w w'
theorem jcc (w:World) (v:Value) (p:Plan) (s:State) (o k:Nat) (n but:Int) {base b:Nat} {t:TypeId} {rst:List Value} {V:SV} (hp:fZ w w.heap.size v p) (hr:Right p s) (hm:May s o k n) (hB:Bx w base b t rst V s) (hbase:base≤w.heap.size):
  Calls prog 67 #[v,.pointer (some ⟨b,0,none⟩),.int .i64 o,.int .i64 k,.int .i64 n,.int .i64 but] w (jhq p s o k n but w base b t rst V):=by
 obtain ⟨Ab,cb,As,cs,rfl,hP',hBn,hSz,hlb,hls⟩:=kN hp;go_enter func67,ntmps67
 go_wp2_with fail;obtain ⟨W0,hW0,hb0,hsz0,hK⟩:=ji1 w p Ab cb As cs;rw [hW0];clear hW0;have hz:=hr.sane.plan;obtain ⟨y0,y1,aW⟩:=hK.out W0 (aj _ _);go_wp2_with fail;refine (jaR _ _ p (hP'.out _ hb0)).mono ?_
 rintro e W1 ⟨uw,rfl,Q5,h1⟩;rw [hz] at Q5 ⊢
 rw [ak rfl] at Q5
 obtain ⟨Aw,cw,rfl⟩:=Q5.isSlice;rw [sD] at Q5 ⊢
 have hBlt:=hB.lt;have TT:=hb0.trans (h1.mono hb0.size);have hB1:=Lib.hid (hB.below TT);obtain ⟨gl,cl,curl,e1,hgl,hblk,f0,f1,f2,f3⟩:=hB1.out.own.bH hm.ho hm.hk;have hll:=((hB.own.line o hm.ho).size gl (by rw [e1];rfl)).2
 obtain ⟨go,co,jg5,eo,hgo,Ib,z0,z1⟩:=hB1.out.own.ay hm.ho;obtain ⟨c0,c1,c2,c3,c4,c5,c6⟩:=hB1.out.cells;rw [eo] at c1
 rw [e1] at z1
 have hon:(o:Int)<(s.orders.length:Int):=by have:=hm.ho;omega
 have hkn:(k:Int)<((s.order o).lines.length:Int):=by have:=hm.hk;omega
 have hm':=Lib.hid hm;have hr':=Lib.hid hr;have Y4:=Lib.hid Q5;have hlw:(way p).length≤6:=by rw [Qg];exact hr.sane.counts.2.1
 clear hm hr Q5 hB hz y0 y1 hP' hBn hSz hK;go_wp2_with fail;clear c0 c1 c2 c3 c4 c5 c6 z0 z1 f0 f1 f2 f3 hon hkn eo Ib hblk;have hl0:W0.heap.size≤W1.heap.size:=h1.size;go_loopw [36,4,17,18] (fun i n' _ _ wr=>∃ (j:Nat) (s':State) (m:Int) (V':SV),V'={V with holds:=V'.holds}∧j≤(way p).length∧i=.int .i64 j∧n'=.int .i64 m∧Right p s'∧May s' o k m∧kJ o k but ((way p).drop j) s' m=ji p s o k n but∧
  Bx wr base b t rst V' s'∧Step (fun j=>j=b∨(V.line o).ownBlock=some j) W1 wr) (fun i _ _ _ _=>(way p).length - (intOf i).toNat)
 case atStart=>exact ⟨0,s,n,V,rfl,aT _,rfl,rfl,hr'.out,hm'.out,rfl,hB1.out,Step.refl _ _⟩
 case round=>
  clear hr' hm' hB1;obtain ⟨j,s',m,V',hsb,hj,rfl,rfl,hr,hm,htg,hBx,hst⟩:=hrel;have hr':=Lib.hid hr;have hm':=Lib.hid hm;have jfz:=Lib.hid htg;have jbP:=Lib.hid hBx;have hst':=Lib.hid hst;have hks:=Lib.hid (show ∀ j,(j=b∨(V.line o).ownBlock=some j)→j<W0.heap.size from fun j h=>by
   have:=hb0.size;rcases h with rfl|h
   ·omega
   ·rw [e1] at h
    change some gl=some j at h
    injection h with h
    omega)
  by_cases hlt:j<(way p).length
  ·have hwb:=BK p _ (eF hlt);have hwr:=Y4.out.step hst (fun k hk jkV=>absurd (hks.out k jkV) (by have:=(Y4.out.size k hk).1;omega))
   obtain ⟨gw,cw',jrv,ew,hgw,hbw,zw⟩:=aO.qX hwr (g:=j) (by rw [sD];exact hlt)
   rw [V4 hlt] at zw
   obtain ⟨wb,jbg⟩:∃ x,x=(way p)[j]:=⟨_,rfl⟩;rw [← jbg] at zw hwb
   have jfv:=Lib.hid jbg;clear jbg;obtain rfl:Aw=some ⟨gw,0,none⟩:=by injection ew
   clear ew;obtain ⟨TS,f0,f1,f2,f3⟩:=hBx.own.jV hm.ho hm.hk (show V'.line o=_ by rw [hsb];exact e1)
   obtain ⟨c0,c1,c2,c3,c4,c5,c6⟩:=hBx.cells;have q1:=fun o d os=>aG (w:=wr) (b:=b) hBx.lt o d os
   have q2:=fun o d os=>aG (w:=wr) (b:=gl) TS o d os
   have hV2:=Lib.hid (fun d os=>(hBx.own.view hr.sane).up (dZ wr d os) (dZ wr d os).size)
   have hgood:=Lib.hid (hr.sane.line hm.ho hm.hk);have hjl:(j:Int)<((way p).length:Int):=by omega
   have hr2:=Lib.hid hr.sane;have hbb:=Lib.hid (show 0≤(wb:Int)∧(wb:Int)<p.aH.length by omega)
   have MF:=Lib.hid hsb;clear hr hm htg hBx hst hwr hbw hsb;go_wp2_with fail;refine aJ (by kernel_rfl) (by kernel_rfl) ?_
   repeat (go_big_quiet_step ((go_at_call 80;refine bD (ji9 _ _ p s' wb _ (hV2.out _ _) hr2.out hbb.out hgood.out.1))))
   refine wpQuiet_nil ?_
   intro W6 hw';have hb6:=aI hw';clear hw';generalize hmm:(if fC s' ↑wb (s'.line o k).good<m then fC s' ↑wb (s'.line o k).good else m)=mm
   have hmin:mm=min m (fC s' wb (s'.line o k).good):=by rw [← hmm];split<;>omega
   have hav:=hm'.out.fC hr'.out hwb;have hmb:=hm'.out.back;have hm0:=hm'.out.n0;have hgb:=hgood.out;have hmr:mm≤m∧m≤200∧0≤mm∧mm≤fC s' wb (s'.line o k).good:=by omega
   have hbr:0≤(s'.line o k).back∧(s'.line o k).back≤200:=by omega
   have Hz:=Lib.hid (hst'.out.trans (.of_below hb6));have hBx6:=Lib.hid (jbP.out.below hb6);have hmin':=Lib.hid hmin;have hdr:kJ o k but (wb::(way p).drop (j+1)) s' m=ji p s o k n but:=by rw [jfv.out,← drop_at hlt];exact jfz.out
   have hdr':=Lib.hid hdr;clear hmm hmin hav hmb hm0 hgb hdr q1 q2 zw f0 f1 f2 f3 c0 c1 c2 c3 c4 c5 c6 hV2;by_cases hsk:(wb:Int)=but∨mm<1
   ·have TP:=Lib.hid (show kJ o k but ((way p).drop (j+1)) s' m=ji p s o k n but by rw [← hdr'.out,pz (by rw [← hmin'.out];exact hsk)])
    by_cases Js:(wb:Int)=but
    ·have hq:((wb:Int)==but)=true:=by simpa using Js
     clear hsk Js;go_wp2_with fail;go_roundw
     case rel=>exact ⟨j+1,s',m,V',MF.out,by omega,by go_num,rfl,hr'.out,hm'.out,TP.out,hBx6.out,Hz.out⟩
     case measure=>simp [intOf];omega
    ·have hq:((wb:Int)==but)=false:=by simpa using Js
     have hlt1:mm<1:=hsk.resolve_left Js;clear hsk Js;go_wp2_with fail;go_roundw
     case rel=>exact ⟨j+1,s',m,V',MF.out,by omega,by go_num,rfl,hr'.out,hm'.out,TP.out,hBx6.out,Hz.out⟩
     case measure=>simp [intOf];omega
   ·have Js:¬ (wb:Int)=but:=fun h=>hsk (.inl h)
    have hge:1≤mm:=by omega
    have hfit:=Lib.hid (hm'.out.fits hwb hge hmr.1 hmr.2.2.2);have TP:=Lib.hid (show kJ o k but ((way p).drop (j+1)) (kC s' o k wb mm) (m - mm)=ji p s o k n but by rw [← hdr'.out,xU Js (by rw [← hmin'.out];exact hge),← hmin'.out])
    have hq:((wb:Int)==but)=false:=by simpa using Js
    obtain ⟨c0,c1,c2,c3,c4,c5,c6⟩:=hBx6.out.cells;have hlen:=jJ hr2.out.holds;have jbH:base≤W6.heap.size:=bJ hbase (bJ TT.size (bJ hst'.out.size hb6.size));clear hsk Js;go_wp2_with fail;refine (joc _ _ s'.holds ⟨o,k,wb,mm⟩ (hBx6.out.own.holds.sl (by omega))).mono ?_
    rintro e W7 ⟨u7,rfl,hu7,hb7⟩;rw [jhn hr'.out hfit.out] at hu7 ⊢
    have hBx7:=Lib.hid (hBx6.out.below hb7);have jp0:=Lib.hid (hu7.from_ jbH);obtain ⟨A7,c7,rfl⟩:=hu7.isSlice;clear hu7 c0 c1 c2 c3 c4 c5 c6;go_wp2_with (refine zk rfl (.tmp 73) (.tmp 70) rfl rfl A7 _ c7 _ hBx7.out rfl rfl jp0.out (fun w8 EI qJ=>?_);refine aU ?_)
    unfold Hid;obtain ⟨jn6,f0,f1,f2,f3⟩:=EI.own.jV (s:={s' with holds:=(kC s' o k wb mm).holds}) hm'.out.ho hm'.out.hk (show V'.line o=_ by rw [MF.out];exact e1)
    have MK:=Lib.hid EI;have hw1:IntKind.i64.wrap ((s'.line o k).back - mm)=(s'.line o k).back - mm:=bf _ (by omega)
    have hw2:IntKind.i64.wrap (m - mm)=m - mm:=bf _ (by omega)
    have f3':w8.cell? ⟨gl,k*4+3,none⟩=some (.int .i64 (s'.line o k).back):=f3;clear EI f0 f1 f2 f3;go_wp2_with (refine qF rfl (.tmp 81) (.tmp 79) rfl rfl (j:=3) (y:={s'.line o k with back:=(s'.line o k).back - mm}) MK.out hm'.out.ho hm'.out.hk (show V'.line o=_ by rw [MF.out];exact e1) (by decide) rfl rfl rfl (fun w9 jgK mQ=>?_);refine aU ?_)
    unfold Hid;have jgJ:=Lib.hid (show Bx w9 base b t rst {V' with holds:=.slice A7 (kC s' o k wb mm).holds.length c7} (kC s' o k wb mm) from jgK)
    have jfE:=Lib.hid (((Hz.out.trans (.of_below hb7)).trans (qJ.mono fun _ h=>.inl h)).trans (mQ.mono fun q hq=>.inr (by rw [hq,e1];rfl)))
    clear f3' jgK mQ qJ;go_wp2_with fail;go_roundw
    case rel=>exact ⟨j+1,kC s' o k wb mm,m - mm,_,by rw [MF.out],by omega,by go_num,rfl,HY hr'.out hfit.out,hm'.out.held (Held.one hr'.out hfit.out) hmr.1,TP.out,jgJ.out,jfE.out⟩
    case measure=>simp [intOf];omega
  ·obtain rfl:j=(way p).length:=by omega
   have hfin:=Lib.hid (show (s',m)=ji p s o k n but by rw [← jfz.out,Lu];rfl)
   have MF:=Lib.hid hsb;clear hr hm htg hBx hst hsb;go_wp2_with fail;go_ret
   exact ⟨bT (by rw [← hfin.out]),V',MF.out,by rw [← hfin.out];exact jbP.out,(Step.of_below TT).trans hst'.out⟩
end Wh
namespace Wh
open Go Go.RowKit
section
variable {P:Program}
theorem Nk (w:World) (g o:Nat) (e ty:TypeId) (cur cs:List Value) (hg:dw w g e cur) (hfit:o+cs.length≤cur.length) (hi:(P.info? ty).map (·.size)=some cs.length) (h1:∀ v∈cs,v.oneCell'=true):
  (storeVar ty ⟨g,o,none⟩ (.agg cs.toArray)).run P w=.ok () (w.setRow g (spl cur o cs).toArray):=by
 have:=KR P g o e cs 0 cur.toArray w hg (by simpa using hfit) h1
 cases hq:P.info? ty with
 |none=>simp [hq] at hi
 |some i=>
  have hs:i.size=cs.length:=by simpa [hq] using hi
  simp only [lZ] at this
  simp [storeVar,Go.sizeOf,typeInfo,hq,Value.cells,hs,this,spl]
theorem jgR {α:Type} (enc:α→List Value) (k:Nat) (hk:∀ x,(enc x).length=k) {l:List α} {i:Nat} (hi:i<l.length) (y:α) {cur:List Value} (hc:l.length*k≤cur.length) (ht:cur.take (l.length*k)=l.flatMap enc):
  (spl cur (i*k) (enc y)).take (l.length*k)=(l.set i y).flatMap enc:=by
 have h1:(i+1)*k≤l.length*k:=AZ _ (by omega)
 have h2:i*k+k=(i+1)*k:=by rw [nG];omega
 have e1:l.set i y=l.take i++[y]++l.drop (i+1):=by
  rw [Xz,ak hi,jo];rfl
 rw [e1,lD,lD,List.flatMap_singleton,← yB enc k hk,← AL enc k hk,← ht];have e2:(cur.take (i*k)++enc y).length=(i+1)*k:=by rw [dK,dS,hk,pW (by omega),h2]
 unfold spl;rw [hk,h2,List.take_append,A8 (by rw [e2];exact h1),e2,yP,pW (by omega),List.drop_take]
theorem Own.put {α:Type} {enc:α→List Value} {size:Nat} {e:TypeId} {w:World} {base g n c:Nat} {l:List α} (h:Own enc size e w base (.slice (some ⟨g,0,none⟩) n c) l) (hk:∀ x,(enc x).length=size) {i:Nat} (hi:i<l.length) (y:α)
  {ty:TypeId} (hty:(P.info? ty).map (·.size)=some size) (h1:∀ v∈enc y,v.oneCell'=true):
  ∃ w',(storeVar ty ⟨g,i*size,none⟩ (.agg (enc y).toArray)).run P w=.ok () w'∧Own enc size e w' base (.slice (some ⟨g,0,none⟩) n c) (l.set i y)∧w.grownBy w' (some g):=by
 obtain ⟨g',cap,cur,e1,hb,hg,h2,h3,h4,h5⟩:=h.row (by omega)
 injection e1 with e1 e2 e3
 injection e1 with e1
 injection e1 with e1
 subst e1 e2 e3;have hle:l.length*size≤cur.length:=by rw [h4];exact AZ _ h2
 have hfit:i*size+(enc y).length≤cur.length:=by
  rw [hk];have:(i+1)*size≤l.length*size:=AZ _ (by omega)
  rw [nG] at this
  omega
 refine ⟨_,Nk w g (i*size) e ty cur (enc y) hg hfit (by rw [hk];exact hty) h1,?_,rE w g _⟩
 have:=Own.Hg (l:=l.set i y) hk hb (hg.row (spl cur (i*size) (enc y))) (by rw [pY];exact h2) h3 (by rw [pO hfit];exact h4) (by rw [pY];exact jgR enc size hk hi y hle h5)
 rwa [pY] at this
theorem JU {α:Type} {enc:α→List Value} {size:Nat} {e:TypeId} {w:World} {base g n c:Nat} {l:List α} {ops:Array Oper} {rest:List Oper} {o:Oper} {a:Go.Act} {Q:Exit→Go.Act→World→Prop} (hgd:o.guard=none) (x z:Operand) (ty:TypeId) (ho:o.op=.store ty x z) (hn:o.dst=none)
  (h:Own enc size e w base (.slice (some ⟨g,0,none⟩) n c) l) (hk:∀ x,(enc x).length=size) {i:Nat} (hi:i<l.length) (y:α) (hty:(P.info? ty).map (·.size)=some size) (h1:∀ v∈enc y,v.oneCell'=true)
  (hx:a.eval x=.pointer (some ⟨g,i*size,none⟩)) (hy:a.eval z=.agg (enc y).toArray)
  (hK:∀ w',Own enc size e w' base (.slice (some ⟨g,0,none⟩) n c) (l.set i y)→w.grownBy w' (some g)→wpList P ops Q rest a w'):wpList P ops Q (o::rest) a w:=
 lV hgd fun K hK'=>by
  obtain ⟨w',hr,h2,h3⟩:=h.put hk hi y hty h1;unfold Oper.wp execOp;simp only [ho,hx,hy,Instr.storeAt,Instr.sureAddr,lW,nC,nX,hr];have hk:=hK' (a.put o.dst undef) w' (by rw [hn];exact hK _ h2 h3)
  exact hk
theorem Own.cut {α:Type} {enc:α→List Value} {size:Nat} {e:TypeId} {w:World} {base g n c:Nat} {l:List α} (h:Own enc size e w base (.slice (some ⟨g,0,none⟩) n c) l) (hk:∀ x,(enc x).length=size) {i:Nat} (hi:i<l.length)
  {t:TypeId} {z:Value} (ht:P.underlying t=some (.slice e)) (hv:∀ w,(zeroValue e).run P w=.ok z w) (hz:z.cells.size=size) (h1:∀ v∈z.cells,v.oneCell'=true):
  ∃ w',(∀ ty c',(Builtin.clear_ #[t] ty #[.slice (some ⟨g,i*size,none⟩) (n - i) c']).run P w=.ok (.tuple #[]) w')∧Own enc size e w' base (.slice (some ⟨g,0,none⟩) i c) (l.take i)∧w.grownBy w' (some g):=by
 obtain ⟨g',cap,cur,e1,hb,hg,h2,h3,h4,h5⟩:=h.row (by omega)
 injection e1 with e1 e2 e3
 injection e1 with e1
 injection e1 with e1
 subst e1 e2 e3;have hle:l.length*size≤cur.length:=by rw [h4];exact AZ _ h2
 have hsp:i*size+(l.length - i)*size=l.length*size:=by rw [← nG];congr 1;omega
 have hzl:(Builtin.zeroCells z.cells (l.length - i)).toList.length=(l.length - i)*size:=by rw [Bv,nR,hz]
 refine ⟨_,fun ty c'=>DK (P:=P) w t e ty z ht hv h1 g (i*size) (l.length - i) c' cur hg (by omega) (by rw [hz];omega),?_,rE w g _⟩
 have hlen:(l.take i).length=i:=by rw [dS];omega
 have:=Own.Hg (l:=l.take i) hk hb (hg.row (spl cur (i*size) (Builtin.zeroCells z.cells (l.length - i)).toList)) (by rw [hlen];omega) h3 (by rw [pO (by rw [hzl];omega)];exact h4) (by
  rw [hlen,VD (by omega),← yB enc size hk,← h5,yP,pW (by omega)])
 rwa [hlen] at this
end
end Wh
namespace Wh
open Go Go.RowKit Go.Proofs Tryz
namespace aO
variable {w w':World} {base:Nat} {V:SV} {s:State}
theorem jkm (h:aO w base V s) {o k:Nat} (ho:o<s.orders.length) {gl n c:Nat} (hv:V.line o=.slice (some ⟨gl,0,none⟩) n c) (y:Line) (hg:w.grownBy w' (some gl)) (hO:Own eP 4 44 w' base (V.line o) ((s.order o).lines.set k y)):
  aO w' base V (s.fG o k y):=by
 have hl:=h.line o ho;have hob:(V.line o).ownBlock=some gl:=by rw [hv];rfl
 have hg':w.grownBy w' (V.line o).ownBlock:=by rw [hob];exact hg
 have hlen:(s.fG o k y).orders.length=s.orders.length:=by unfold State.fG;simp
 have hor:∀ o',(s.fG o k y).order o'=if o'=o then {s.order o with lines:=(s.order o).lines.set k y} else s.order o':=fun o'=>Nl ho
 refine ⟨h.on.kept hg' (h.on.apart hl (by decide)),h.rlen,fun b hb=>(h.row b hb).kept hg' ((h.row b hb).apart hl (by decide)),?_,by rw [hlen];exact h.llen,fun o' ho'=>?_,h.holds.kept hg' (h.holds.apart hl (by decide)),
  h.moves.kept hg' (h.moves.apart hl (by decide)),h.inn.kept hg' (h.inn.apart hl (by decide)),h.out.kept hg' (h.out.apart hl (by decide)),h.fixed.kept hg' (h.fixed.apart hl (by decide)),h.apart,h.oQ⟩
 ·have e:pU (s.fG o k y).orders V.lines=pU s.orders V.lines:=YB rfl;rw [e];exact h.orders.kept hg' (h.orders.apart hl (by decide))
 ·rw [hlen] at ho'
  rw [hor];by_cases he:o'=o
  ·subst he;rw [ak rfl];exact hO
  ·rw [ah he];exact (h.line o' ho').kept hg' (EU h.oQ (by rw [h.llen];exact ho') (by rw [h.llen];exact ho) he)
theorem BA (h:aO w base V s) (hg:w.grownBy w' V.moves.ownBlock) {v:Value} {l:List Move} (hv:Own gV 4 48 w' base v l):aO w' base {V with moves:=v} {s with moves:=l}:=h.QG hg hv
end aO
section
variable {ops:Array Oper} {rest:List Oper} {o:Oper} {a:Act} {w:World} {Q:Exit→Act→World→Prop} {base b:Nat} {t:TypeId} {cs:List Value} {V:SV} {s:State}
theorem xQ (hgd:o.guard=none) (x z:Operand) (ho:o.op=.store 3 x z) (hn:o.dst=none) {i go n c:Nat} {q:Int} (hB:Bx w base b t cs V s) (hi:i<s.orders.length)
  (hv:V.orders=.slice (some ⟨go,0,none⟩) n c) (hx:a.eval x=.pointer (some ⟨go,i*2,none⟩)) (hz:a.eval z=.int .i64 q)
  (h:∀ w',Bx w' base b t cs V {s with orders:=s.orders.set i {s.order i with kind:=q}}→Step (·=go) w w'→wpList prog ops Q rest a w'):wpList prog ops Q (o::rest) a w:=
 lV hgd fun K hK=>by
  obtain ⟨g',c',cur,e1,_,e3,f0,f1⟩:=hB.own.ay hi;rw [hv] at e1
  injection e1 with e1
  injection e1 with e1
  injection e1 with e1
  subst e1;obtain ⟨h1,h2⟩:=hB.own.setKind hi hv q;have h3:=h _ ⟨hB.off e3 hB.ty.h3 h2,h1,hB.ty⟩ (.dG h2 fun k hk=>by injection hk with hk;exact hk.symm)
  have hf:=e3.frozen (i*2);clear h hB h1 h2 f1 e3;unfold Oper.wp;simp only [execOp,ho,hx,hz];go_simp
  exact hK _ _ h3
theorem zi (hgd:o.guard=none) (x z:Operand) (ho:o.op=.store 3 x z) (hn:o.dst=none) {i g gr n c:Nat} {q:Int} (hB:Bx w base b t cs V s) (hi:i<s.on.length) (hg:g<(rowAt s.on i).length)
  (hv:V.row i=.slice (some ⟨gr,0,none⟩) n c) (hx:a.eval x=.pointer (some ⟨gr,g,none⟩)) (hz:a.eval z=.int .i64 q)
  (h:∀ w',Bx w' base b t cs V {s with on:=setCell s.on i g q}→Step (·=gr) w w'→wpList prog ops Q rest a w'):wpList prog ops Q (o::rest) a w:=
 lV hgd fun K hK=>by
  obtain ⟨_,_,_,g',c',cur,_,_,_,_,e1,_,e3,f0⟩:=hB.own.Jr hi hg;rw [hv] at e1
  injection e1 with e1
  injection e1 with e1
  injection e1 with e1
  subst e1;obtain ⟨h1,h2⟩:=hB.own.Yf hi hg hv q;have h3:=h _ ⟨hB.off e3 hB.ty.h2 h2,h1,hB.ty⟩ (.dG h2 fun k hk=>by injection hk with hk;exact hk.symm)
  have hf:=e3.frozen g;clear h hB h1 h2 e3;unfold Oper.wp;simp only [execOp,ho,hx,hz];go_simp
  exact hK _ _ h3
theorem Uh (hgd:o.guard=none) (x z:Operand) (ho:o.op=.store 3 x z) (hn:o.dst=none) {g gr n c:Nat} {q:Int} (hB:Bx w base b t cs V s) (hg:g<s.out.length)
  (hv:V.out=.slice (some ⟨gr,0,none⟩) n c) (hx:a.eval x=.pointer (some ⟨gr,g,none⟩)) (hz:a.eval z=.int .i64 q)
  (h:∀ w',Bx w' base b t cs V {s with out:=s.out.set g q}→Step (·=gr) w w'→wpList prog ops Q rest a w'):wpList prog ops Q (o::rest) a w:=
 lV hgd fun K hK=>by
  obtain ⟨g',c',cur,e1,_,e3,f0⟩:=aO.qX hB.own.out hg;rw [hv] at e1
  injection e1 with e1
  injection e1 with e1
  injection e1 with e1
  subst e1;obtain ⟨h1,h2⟩:=hB.own.jj0 hg hv q;have h3:=h _ ⟨hB.off e3 hB.ty.h2 h2,h1,hB.ty⟩ (.dG h2 fun k hk=>by injection hk with hk;exact hk.symm)
  have hf:=e3.frozen g;clear h hB h1 h2 e3;unfold Oper.wp;simp only [execOp,ho,hx,hz];go_simp
  exact hK _ _ h3
theorem NS (hgd:o.guard=none) (x z:Operand) (ho:o.op=.store 3 x z) (hn:o.dst=none) {g gr n c:Nat} {q:Int} (hB:Bx w base b t cs V s) (hg:g<s.fixed.length)
  (hv:V.fixed=.slice (some ⟨gr,0,none⟩) n c) (hx:a.eval x=.pointer (some ⟨gr,g,none⟩)) (hz:a.eval z=.int .i64 q)
  (h:∀ w',Bx w' base b t cs V {s with fixed:=s.fixed.set g q}→Step (·=gr) w w'→wpList prog ops Q rest a w'):wpList prog ops Q (o::rest) a w:=
 lV hgd fun K hK=>by
  obtain ⟨g',c',cur,e1,_,e3,f0⟩:=aO.qX hB.own.fixed hg;rw [hv] at e1
  injection e1 with e1
  injection e1 with e1
  injection e1 with e1
  subst e1;obtain ⟨h1,h2⟩:=hB.own.jeG hg hv q;have h3:=h _ ⟨hB.off e3 hB.ty.h2 h2,h1,hB.ty⟩ (.dG h2 fun k hk=>by injection hk with hk;exact hk.symm)
  have hf:=e3.frozen g;clear h hB h1 h2 e3;unfold Oper.wp;simp only [execOp,ho,hx,hz];go_simp
  exact hK _ _ h3
theorem jdz:(prog.info? 44).map (·.size)=some 4:=by kernel_rfl
theorem je6 (x:Line):∀ u∈eP x,u.oneCell'=true:=by simp [eP,Value.oneCell']
theorem X4 (hgd:o.guard=none) (x z:Operand) (ho:o.op=.store 44 x z) (hn:o.dst=none) {i k gl n c:Nat} {y:Line} (hB:Bx w base b t cs V s) (hi:i<s.orders.length) (hk:k<(s.order i).lines.length)
  (hv:V.line i=.slice (some ⟨gl,0,none⟩) n c) (hx:a.eval x=.pointer (some ⟨gl,k*4,none⟩)) (hz:a.eval z=BL y)
  (h:∀ w',Bx w' base b t cs V (s.fG i k y)→Step (·=gl) w w'→wpList prog ops Q rest a w'):wpList prog ops Q (o::rest) a w:=by
 obtain ⟨g',c',cur,e1,_,e3,_⟩:=hB.own.bH hi hk;rw [hv] at e1
 injection e1 with e1 e2 e2'
 injection e1 with e1
 injection e1 with e1
 subst e1;have hO:=hB.own.line i hi;rw [hv] at hO
 refine JU hgd x z _ ho hn hO (fun _=>rfl) hk y jdz (je6 y) hx hz fun w' h1 h2=>?_
 rw [← hv] at h1
 exact h w' ⟨hB.off e3 hB.ty.h4 h2,hB.own.jkm hi hv y h2 h1,hB.ty⟩ (.dG h2 fun k hk=>by injection hk with hk;exact hk.symm)
end
end Wh
