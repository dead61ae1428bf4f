/- Texts of the claim, joined. -/
import Derived.Sort.QuietThIn
import Derived.OwnWalkIn
import Derived.RangeFuncCalls
import Derived.BigQuiet
import Derived.WalkMore
import Derived.Test.YtfhfkijmebhgmaaGreatK20
set_option maxHeartbeats 20000000
set_option maxRecDepth 100000
namespace Wh
open Go Go.RowKit Go.Shelf Go.Proofs Tryz
section
variable {P:Program} {ops:Array Oper} {md:Region.Mode} {C:World→Prop} {l₀ n:Nat}
def JQ(ops:Array Oper):Bool:=ops.all λo=>match o.op with| .defer _=>false|_=>true
theorem VI{ops:Array Oper}(h:JQ ops=true){i:Nat}{o:Oper}(hi:ops[i]?=some o)(c:Call):o.op≠.defer c:=λe=>by
 unfold JQ at h
 rw[Array.all_eq_true]at h
 obtain⟨hl,rfl⟩:=bJ.1 hi
 have:=h i hl;rw[e]at this
 cases this
theorem U7{o:Oper}{a:Act}{K:Act->Prop}{K':Act->World->Prop}{Q':Exit->Act->World->Prop}{w:World}(hnd:∀c,o.op≠.defer c)(hw:C w)(h:∀a w',C w'->K a->K' a w')
  (hh:o.quiet P a C K):o.wpIn (Fence.wide.inRound l₀) n P a w K' Q':=by
 obtain⟨v,h1,h2⟩:=hh;have h3:=h1 w hw;unfold Oper.quietAt at h3
 unfold Oper.wpIn;refine⟨λ_ _=>trivial,?_⟩
 rw[Oper.semAt_plain _ _ _ hnd];generalize (execOp a.eval o).run P w=r at*
 cases r with
 |ok x w'=>
  cases x<;>simp only[Oper.quietUpon]at h3<;>simp only[Oper.uponIn]
  case value u=>
   obtain⟨e1,e2⟩:=h3;rw[e1,e2];exact h _ _ hw h2
  case skip=>
   obtain⟨e1,e2⟩:=h3;rw[e1,<- e2];exact h _ _ hw h2
  case enter f args=>
   obtain⟨e1,hc⟩:=h3;rw[e1];exact⟨λhd=>(by cases hd),CallsIn.inRound l₀ (iQ.2 (hc.mono λe w'' hh=>by
    obtain⟨he,hw''⟩:=hh;subst he;exact h _ _ hw'' h2))⟩
 |halt x w'=>simp only[Oper.quietUpon]at h3
theorem U6{i:Nat}{a:Act}{K:Act->Prop}{K':Act->World->Prop}{Q':Exit->Act->World->Prop}{w:World}(hnd:JQ ops=true)(hC:C w)(h:∀a w',C w'->K a->K' a w')
  (hh:qOp P ops C i K a):wpOpIn (Fence.wide.inRound l₀) n P ops Q' i K' a w:=by
 unfold qOp at hh
 unfold wpOpIn;split
 ·rename_i ho;simp only[ho]at hh;exact h _ _ hC hh
 ·rename_i o ho
  simp only[ho]at hh
  split
  ·rename_i hw;simp only[hw,uf]at hh;exact U7 (VI hnd ho) hC h hh
  ·rename_i hw;simp only[hw]at hh;exact⟨λ_ _=>trivial,h _ _ hC hh⟩
theorem JE{Q:Act->Prop}{Q':Exit->Act->World->Prop}(hnd:JQ ops=true)(hQ:∀a w,C w->Q a->Q' .normal a w):∀(fuel:Nat) (dJ:Array Bool) (a:Act) (w:World),C w->
  wpAnyQ P md ops C Q fuel dJ a->wpAnyIn (Fence.wide.inRound l₀) n P md ops Q' fuel dJ a w
 |0,_,_,_,hw,h=>⟨h.1,hQ _ _ hw h.2⟩
 |fuel+1,_,_,_,hw,h=>⟨λh0=>hQ _ _ hw (h.1 h0),λi hi=>U6 hnd hw (λa' w' hw'=>JE hnd hQ fuel _ a' w' hw') (h.2 i hi)⟩
theorem Qh{id:Nat}{Q:Exit->Act->World->Prop}{a:Act}{w:World}(hnd:JQ ops=true)(hm:P.follows .mixedOrders=true)(hB:Region.lexB .any ops=true)(hC:C {w with drawn:=w.drawn+1})
  (h:wpQuiet P ops C (λa'=>∀w',C w'->Q .normal a' w') ops.toList a):(Code.region id ops true).wpIn (Fence.wide.inRound l₀) n P Q a w:=by
 simp only[Region.lexB,bG]at hB
 refine wpIn_region_any hm (JE (Q:=λa'=>∀w',C w'->Q .normal a' w') hnd (λ_ w' hw' h=>h w' hw') _ _ _ _ hC ?_)
 have:=wpAnyQ_lex (C:=C) (md:=.any) hB.1 ops.toList 0 (Array.replicate ops.size false) a (by simp) (by simpa using hB.2) h
 simpa using this
theorem uI{id:Nat}{Q:Exit->Act->World->Prop}{a:Act}{w:World}{l:List Oper}(hnd:JQ l.toArray=true)(hm:P.follows .mixedOrders=true)(hB:Region.lexB .any l.toArray=true)
  (h:wpQuiet P l.toArray (λw'=>∃p:GB,w'=wld w p.d p.os) (λa'=>∀w',(∃p:GB,w'=wld w p.d p.os)->Q .normal a' w') l a):(Code.region id l.toArray true).wpIn (Fence.wide.inRound l₀) n P Q a w:=
 Qh (C:=λw'=>∃p:GB,w'=wld w p.d p.os) hnd hm hB ⟨⟨w.drawn+1,#[]⟩,by simp[wld]⟩ (by simpa using h)
end
theorem XB{ops:Array Oper}{rest:List Oper}{o:Oper}{a:Act}{w:World}{Q:Exit->Act->World->Prop}{aO b l₀ n0:Nat}{t:TypeId}{cs:List Value}{V:SV}
  (hgd:o.guard=none) (x y:Operand) (ho:o.op=.store 29 x y) (hn:o.dst=none) (A:Option Addr) (n c:Nat) {V':SV} {s':aJ} (hk:iV w b t (V.cells++cs)) (hO:dK w aO V' s') (hT:jcQ t) (hV:V'.cells++cs=(V.cells++cs).set 3 (.slice A n c))
  (hx:a.eval x=.pointer (some ⟨b,3,none⟩)) (hy:a.eval y=.slice A n c) (h:∀w',Bx w' aO b t cs V' s'->Step (·=b) w w'->wpListIn (Fence.wide.inRound l₀) n0 prog ops Q rest a w'):wpListIn (Fence.wide.inRound l₀) n0 prog ops Q (o::rest) a w:=
 wpListIn_plain hgd λK hK=>by
  obtain⟨h1,h2⟩:=Bx.set' hk hO hT 3 (.slice A n c) hV;have h3:=h _ h1 (.jR h2 λk hk=>by injection hk with hk;exact hk.symm)
  have hc:w.cell? ⟨b,3,none⟩=some V.aF:=hk.cell rfl;have hf:=hk.frozen 3;clear h hk hO h1 h2 hV;unfold Oper.wpIn;refine⟨λ_ _=>trivial,?_⟩
  rw[Oper.semAt_plain _ _ _ (λc=>by rw[ho];intro e;cases e)]
  simp only[execOp,ho,hx,hy];go_simp
  rw[hn]at*
  exact hK _ _ h3
end Wh
namespace Wh
open Go Go.RowKit Go.Shelf Go.Proofs Tryz
attribute [local go_sem] aT
attribute [local go_sem] Oper.semAt_some
abbrev FX(p:dA)(f:Bool):Type:={x:Nat // x<p.bQ.length/\(l9 p.bQ x).front=f}
def qB(p:dA)(f:Bool):Nat->List (FX p f)
 |0=>[]
 |k+1=>if h:k<p.bQ.length/\(l9 p.bQ k).front=f then qB p f k++[(⟨k,h⟩:FX p f)]else qB p f k
theorem Qr{p:dA}{f:Bool}{k:Nat}(h1:k<p.bQ.length)(h2:(l9 p.bQ k).front=f):qB p f (k+1)=qB p f k++[⟨k,h1,h2⟩]:=by
 show(if h:k<p.bQ.length/\(l9 p.bQ k).front=f then qB p f k++[(⟨k,h⟩:FX p f)]else qB p f k)=_
 rw[dif_pos ⟨h1,h2⟩]
theorem YO{p:dA}{f:Bool}{k:Nat}(h:(l9 p.bQ k).front≠f):qB p f (k+1)=qB p f k:=by
 show(if h:k<p.bQ.length/\(l9 p.bQ k).front=f then qB p f k++[(⟨k,h⟩:FX p f)]else qB p f k)=_
 rw[dif_neg (λhh=>h hh.2)]
theorem Qs(p:dA)(f:Bool):∀k,k<=p.bQ.length->(qB p f k).map Subtype.val=uT p f k
 |0,_=>rfl
 |k+1,hk=>by
  have ih:=Qs p f k (by omega)
  by_cases hf:(l9 p.bQ k).front=f
  ·rw[Qr (by omega) hf,EO hf,fJ,ih]
   rfl
  ·rw[YO hf,Gi hf,ih]
theorem PV(p:dA)(f:Bool):∀k,(qB p f k).length<=k
 |0=>au _
 |k+1=>by
  have ih:=PV p f k;show(if h:k<p.bQ.length/\(l9 p.bQ k).front=f then qB p f k++[(⟨k,h⟩:FX p f)]else qB p f k).length<=k+1
  split
  ·rw[aZ,pX];omega
  ·omega
theorem Qu(p:dA)(f:Bool):∀n k,k<=n->∃r,qB p f n=qB p f k++r
 |0,k,h=>by
  obtain rfl:k=0:=by omega
  exact⟨[],rfl⟩
 |n+1,k,h=>by
  by_cases he:k=n+1
  ·exact⟨[],by rw[he,iJ]⟩
  ·obtain⟨r,hr⟩:=Qu p f n k (by omega)
   by_cases hh:n<p.bQ.length/\(l9 p.bQ n).front=f
   ·exact⟨r++[⟨n,hh⟩],by rw[Qr hh.1 hh.2,hr,eH]⟩
   ·refine⟨r,?_⟩
    rw[<- hr];show(if h:n<p.bQ.length/\(l9 p.bQ n).front=f then qB p f n++[(⟨n,h⟩:FX p f)]else qB p f n)=_
    rw[dif_neg hh]
theorem jgF(F:Fence)(n:Nat)(h7:F.fn 156)(hro:F.round=none)(hn:1<=n)(l Bp Bf n₀:Nat)(p:dA)(f:Bool)(Ab As:Option Addr)(cb cs:Nat)(hlb:p.bQ.length<=6)(J Jx:List (FX p f)->World->Prop)
  (hY:∀(pre:List (FX p f)) (x:FX p f) W,J pre W->pre.length<p.bQ.length->YieldAt F (n - 1) prog l #[.int .i64 ((x.1:Nat):Int)] W λe W'=>
   (e=.returned (.bool true)/\J (pre++[x]) W'/\KpB n₀ Bf W W')\/(e=.returned (.bool false)/\Jx (pre++[x]) W'))
  (W:World) (hn0:n₀<=W.heap.size) (hJ:AbidesFrom W.heap.size J) (hBf:Bf<W.heap.size) (hp0:W.cell? ⟨Bp,0,none⟩=some (.slice Ab p.bQ.length cb)) (_:W.cell? ⟨Bp,1,none⟩=some (.slice As p.aP.length cs))
  (hf:W.cell? ⟨Bf,0,none⟩=some (.bool f)) (hA:At W n₀ Ab (p.bQ.flatMap PG)) (h0:J [] W):
  CallsIn F n prog 156 #[.func (.yield l) #[] #[],.pointer (some ⟨Bp,0,none⟩),.pointer (some ⟨Bf,0,none⟩)] W λe W'=>(∃v,e=.returned v)/\
   ((∃ys,ys=qB p f p.bQ.length/\J ys W')\/(∃pre,(∃k,k<=p.bQ.length/\pre=qB p f k)/\Jx pre W')):=by
 refine qQ func156 rfl h7 ?_ hro
 simp only[ntmps156,jP,dw,dY,Nat.reduceAdd,Nat.reduceSub,jG,jF,kF,jO,iy,jK];gi_wp2
 gi_loopw [9] (λi wr=>∃k:Nat,k<=p.bQ.length/\i=.int .i64 k/\J (qB p f k) wr/\KpB n₀ Bf W wr)
  (λi _=>p.bQ.length - (RowKit.intOf i).toNat)
 case atStart=>exact⟨0,aK _,rfl,h0,aj _ _,rfl⟩
 case round=>
  obtain⟨k,hk,rfl,hJs,hnx,hnf⟩:=hrel;by_cases hlt:k<p.bQ.length
  ·obtain⟨hok,LG,b0,b1,b2,b3⟩:=(hA.up hnx (au _)).bin hlt;have g0:=hnf.trans hf;have hBw:Bf<wr.heap.size:=by have:=hnx.size;omega
   have hJa:=hJ _ _ _ none hJs (oJ wr (.cells #[.bool (l9 p.bQ k).front,.int .i64 (l9 p.bQ k).room,.int .i64 (l9 p.bQ k).low,.int .i64 (l9 p.bQ k).high] 125) none) (λr h=>by cases h)
   have hBa:Below n₀ wr (wr.alloc (.cells #[.bool (l9 p.bQ k).front,.int .i64 (l9 p.bQ k).room,.int .i64 (l9 p.bQ k).low,.int .i64 (l9 p.bQ k).high] 125)):=(aj _ _).alloc (by have:=hnx.size;omega) _
   have hca:(wr.alloc (.cells #[.bool (l9 p.bQ k).front,.int .i64 (l9 p.bQ k).room,.int .i64 (l9 p.bQ k).low,.int .i64 (l9 p.bQ k).high] 125)).cell? ⟨Bf,0,none⟩=wr.cell? ⟨Bf,0,none⟩:=
    ((aj wr.heap.size wr).alloc (au _) _).cell (p:=⟨Bf,0,none⟩) hBw
   cases hfr:((l9 p.bQ k).front==f)
   ·have hno:=YO (p:=p) (f:=f) (k:=k) (by simpa using hfr)
    gi_wp2
    refine⟨λ_ h=>(by cases h),?_⟩
    gi_wp2
    go_roundw
    case rel=>exact⟨k+1,by omega,by simp,by rw[hno];exact hJa,hnx.trans hBa,hca.trans hnf⟩
    case measure=>simp[RowKit.intOf];omega
   ·have hfk:=ah (show(l9 p.bQ k).front=f by simpa using hfr)
    have hyes:=Qr hlt hfk.O;obtain⟨fn,tmps,assign,body,hy,hR⟩:YieldAt F (n - 1) prog l #[.int .i64 ((k:Nat):Int)] _ _:=hY _ ⟨k,hlt,hfk.O⟩ _ hJa (by have:=PV p f k;omega)
    gi_wp2
    refine hR.mono ?_
    rintro e W3 (⟨rfl,hJ3,hk3⟩|⟨rfl,hJx3⟩)
    ·gi_wp2
     go_roundw
     case rel=>exact⟨k+1,by omega,by simp,by rw[hyes];exact hJ3,(hnx.trans hBa).trans hk3.1,(hk3.2.trans hca).trans hnf⟩
     case measure=>simp[RowKit.intOf];omega
    ·gi_wp2
     refine fD (xk rfl _ _ _) rfl ?_
     exact⟨⟨_,rfl⟩,.inr ⟨_,⟨k+1,by omega,hyes.symm⟩,hJx3⟩⟩
  ·obtain rfl:k=p.bQ.length:=by omega
   gi_wp2
   go_end0
   exact⟨⟨_,rfl⟩,.inl ⟨_,rfl,hJs⟩⟩
theorem Um(F:Fence)(n:Nat)(h7:F.fn 156)(hro:F.round=none)(hn:1<=n)(Bp Bf n₀:Nat)(p:dA)(f:Bool)(Ab As:Option Addr)(cb cs:Nat)(hlb:p.bQ.length<=6)(w:World)(hn0:n₀<=w.heap.size)(hBp:Bp<w.heap.size)(hBf:Bf<w.heap.size)
  (hp0:w.cell? ⟨Bp,0,none⟩=some (.slice Ab p.bQ.length cb)) (hp1:w.cell? ⟨Bp,1,none⟩=some (.slice As p.aP.length cs)) (hf:w.cell? ⟨Bf,0,none⟩=some (.bool f)) (hA:At w n₀ Ab (p.bQ.flatMap PG)):
  SeqStopsK F n prog 156 #[.pointer (some ⟨Bp,0,none⟩),.pointer (some ⟨Bf,0,none⟩)] (λx:FX p f=>#[Value.int .i64 ((x.1:Nat):Int)]) (KpB n₀ Bf) (λys=>ys=qB p f p.bQ.length) (λpre=>∃k,k<=p.bQ.length/\pre=qB p f k) p.bQ.length w:=λl J Jx W hW hJ _ hY h0=>
 jgF F n h7 hro hn l Bp Bf n₀ p f Ab As cb cs hlb J Jx hY W (aY hn0 hW.size) hJ (aI hBf hW.size) ((hW.cell (p:=⟨Bp,0,none⟩) hBp).trans hp0) ((hW.cell (p:=⟨Bp,1,none⟩) hBp).trans hp1)
  ((hW.cell (p:=⟨Bf,0,none⟩) hBf).trans hf) (hA.up (hW.mono hn0) (au _)) h0
section
variable {w w':World} {aO:Nat}
theorem Own.wB{α:Type}{enc:α->List Value}{size:Nat}{e:TypeId}{v:Value}{l:List α}{row:Option Nat}(h:Own enc size e w aO v l)(hg:w.grownBy w' row)(hr:∀r,row=some r->∃o:Obj,w.heap[r]?=some o/\o.isCells=false):Own enc size e w' aO v l:=by
 refine h.kept hg ?_
 cases hv:v.ownBlock with
 |none=>exact .inl rfl
 |some g=>
  refine .inr λhe=>?_
  obtain⟨cur,hc⟩:=h.block hv;obtain⟨o,ho,hn⟩:=hr g he.symm;rw[hc]at ho
  injection ho with ho
  subst ho;cases hn
theorem dK.wB{V:SV}{s:aJ}{row:Option Nat}(h:dK w aO V s)(hg:w.grownBy w' row)(hr:∀r,row=some r->∃o:Obj,w.heap[r]?=some o/\o.isCells=false):dK w' aO V s:=
 ⟨h.on.wB hg hr,h.rlen,λb hlt=>(h.row b hlt).wB hg hr,h.ak.wB hg hr,h.llen,λo ho=>(h.aG o ho).wB hg hr,h.aA.wB hg hr,h.aF.wB hg hr,h.gY.wB hg hr,h.O.wB hg hr,h.bg.wB hg hr,h.apart,h.yS⟩
theorem Bx.wB{b:Nat}{t:TypeId}{rest:List Value}{V:SV}{s:aJ}{row:Option Nat}(h:Bx w aO b t rest V s)(hg:w.grownBy w' row)(hr:∀r,row=some r->∃o:Obj,w.heap[r]?=some o/\o.isCells=false):Bx w' aO b t rest V s:=by
 refine⟨h.box.grown hg λhe=>?_,h.own.wB hg hr,h.ty⟩
 obtain⟨o,ho,hn⟩:=hr b he.symm;have hb:w.heap[b]?=_:=h.box;rw[hb]at ho
 injection ho with ho
 subst ho;cases hn
end
end Wh
namespace Wh
open Go Go.RowKit Go.Shelf Go.Proofs Tryz
theorem G7{B:Nat}{W W':World}{row:Option Nat}(hg:W.grownBy W' row)(hr:∀r,row=some r->∃cs t sp,W.heap[r]?=some (.cells cs t sp)):KeepsFrom B W W':=
 ⟨hg.size,λk o _ hk hn=>(hg.block k (bJ.1 hk).1 (λe=>by
  obtain⟨cs,t,sp,hc⟩:=hr k e.symm;rw[hc]at hk
  injection hk with hk
  subst hk;cases hn)).trans hk⟩
theorem Di{B:Nat}{W W':World}(h:Below W.heap.size W W'):KeepsFrom B W W':=⟨h.size,λk _ _ hk _=>(h.block k (bJ.1 hk).1).trans hk⟩
theorem Bx.jhg{w:World}{aO b:Nat}{t:TypeId}{rest:List Value}{V:SV}{s:aJ}(h:Bx w aO b t rest V s){r:Nat}(hr:some r=V.aF.ownBlock):∃cs t sp,w.heap[r]?=some (.cells cs t sp):=by
 obtain⟨cur,hc⟩:=h.own.aF.block hr.symm;exact⟨_,_,_,hc⟩
theorem jhi(p:dA)(f:Bool)(n:Nat)(h2:2<=n){g:Operand}{q sb:Nat}{assign body:Code}{Q:Exit->Act->World->Prop}{a:Act}{w:World}(Bp Bf n₀:Nat)(Ab As:Option Addr)(cb cs:Nat)(hlb:p.bQ.length<=6)(hn0:n₀<=w.heap.size)(hBp:Bp<w.heap.size)(hBf:Bf<w.heap.size)
  (hg:a.eval g=.func (.func 156) #[] #[.pointer (some ⟨Bp,0,none⟩),.pointer (some ⟨Bf,0,none⟩)])
  (hp0:w.cell? ⟨Bp,0,none⟩=some (.slice Ab p.bQ.length cb)) (hp1:w.cell? ⟨Bp,1,none⟩=some (.slice As p.aP.length cs)) (hf:w.cell? ⟨Bf,0,none⟩=some (.bool f)) (hA:At w n₀ Ab (p.bQ.flatMap PG))
  (I:List (FX p f)->World->Prop) (Ix:Code->List (FX p f)->World->Prop) (hI:OwnFrom w.heap.size I) (hIx:∀c,OwnFrom w.heap.size (Ix c)) (h0:I [] w) (hsz:∀pre W,I pre W->w.heap.size<=W.heap.size)
  (A8:∀(l:Nat) (x:FX p f) (W:World) (K:Act->World->Prop),K {tmps:=(a.tmps.setIfInBounds q (.int .i64 ((x.1:Nat):Int))).setIfInBounds sb (.pointer (some ⟨W.heap.size,0,none⟩)),defers:=[]} (W.alloc (.cells #[.int .i64 ((x.1:Nat):Int)] 3))->
   assign.wpIn (Fence.wide.inRound l) (n - 1 - 1) prog (Exit.then K (λ_ _ _=>False)) {tmps:=a.tmps.setIfInBounds q (.int .i64 ((x.1:Nat):Int)),defers:=[]} W)
  (hbody:∀(l:Nat) (pre:List (FX p f)) (x:FX p f) (B:Nat) (W:World),w.heap.size<=l->(∃r,W.heap[l]?=some (.loop r))->I pre W->Boxed W B 3 (.int .i64 ((x.1:Nat):Int))->w.heap.size<=B->
   body.wpIn (Fence.wide.inRound l) (n - 1 - 1) prog (ownPostG w.heap.size (KpB n₀ Bf) I Ix (pre++[x]) W) {tmps:=(a.tmps.setIfInBounds q (.int .i64 ((x.1:Nat):Int))).setIfInBounds sb (.pointer (some ⟨B,0,none⟩)),defers:=[]} W)
  (Hl:∀(D:Nat) (W:World),w.heap.size<=D->I (qB p f p.bQ.length) W->W.heap[D]?=some (.deferred (some []))->Q .normal {a with defers:={target:=.collected D,args:=#[]}::a.defers} W)
  (hstop:∀(D:Nat) (c:Code) (k:Nat) (W:World),w.heap.size<=D->k<=p.bQ.length->Ix c (qB p f k) W->W.heap[D]?=some (.deferred (some []))->c.wpIn Fence.wide n prog Q {a with defers:={target:=.collected D,args:=#[]}::a.defers} W):
  (Code.rangeFunc g #[q] assign body).wpIn Fence.wide n prog Q a w:=by
 refine wpIn_rangeFunc_ownH rfl (by omega) (gf:=156) (lb:=#[.pointer (some ⟨Bp,0,none⟩),.pointer (some ⟨Bf,0,none⟩)]) hg trivial (enters_of func156 (by kernel_rfl) rfl)
  (Um Fence.wide (n - 1) trivial rfl (by omega) Bp Bf n₀ p f Ab As cb cs hlb w hn0 hBp hBf hp0 hp1 hf hA)
  (λh k=>⟨h.1.trans k.1,k.2.trans h.2⟩)
  (λW l o o' hl ho hc hw=>⟨belowK_b hn0 W l o o' hl ho hc hw,((aj w.heap.size W).grown (grownBy_putObj' W l o') (by have:=(bJ.1 ho).1;omega) (λk e=>by cases e;exact hl)).cell (p:=⟨Bf,0,none⟩) hBf⟩)
  (aj _ _) (λ_=>rfl) I Ix hI hIx h0
  (λx a' W=>∃B,w.heap.size<=B/\a'={tmps:=(a.tmps.setIfInBounds q (.int .i64 ((x.1:Nat):Int))).setIfInBounds sb (.pointer (some ⟨B,0,none⟩)),defers:=[]}/\Boxed W B 3 (.int .i64 ((x.1:Nat):Int)))
  (λx a' _ X Y row hs hg' hr=>by
   obtain⟨B,h1,h3,h4⟩:=hs;exact⟨B,h1,h3,(boxed_own B 3 (λ_:Unit=>Value.int .i64 ((x.1:Nat):Int))) () X Y row h4 hg' (λr e=>(hr r e).2)⟩)
  (λl pre x W K hIp hK=>?_) (λl pre x a' W hl hr hIp hAx hlt=>?_) (λD xs W hD hS hIp hW=>?_) (λD c pre W hD hS hIp hW=>?_)
 ·have hz:Array.foldl (λt (x:Nat×Value)=>match x with|(p,v)=>t.setIfInBounds p v) a.tmps (#[q].zip #[Value.int .i64 ((x.1:Nat):Int)])=a.tmps.setIfInBounds q (.int .i64 ((x.1:Nat):Int)):=by simp
  rw[hz];refine A8 l x W K (hK _ _ (G7 (oJ W _ none) (λr e=>by cases e)) ⟨(aj _ _).alloc (aY hn0 (hsz _ _ hIp)) _,((aj W.heap.size W).alloc (au _) _).cell (p:=⟨Bf,0,none⟩) (aI hBf (hsz _ _ hIp))⟩ (hI.alloc _ hIp) ⟨W.heap.size,hsz _ _ hIp,rfl,Boxed.new W _ _⟩)
 ·obtain⟨B,h1,rfl,h4⟩:=hAx;exact hbody l pre x B W hl hr hIp h4 h1
 ·subst hS;exact Hl D W hD hIp hW
 ·obtain⟨k,hk,rfl⟩:=hS;exact hstop D c k W hD hk hIp hW
theorem jdl(p:dA)(f:Bool)(n l₀:Nat)(h2:2<=n){g:Operand}{q sb:Nat}{assign body:Code}{Q:Exit->Act->World->Prop}{a:Act}{w:World}{r₀:Loop}(hl₀:w.heap[l₀]?=some (.loop r₀))(Bp Bf n₀:Nat)(Ab As:Option Addr)(cb cs:Nat)(hlb:p.bQ.length<=6)(hn0:n₀<=w.heap.size)(hBp:Bp<w.heap.size)(hBf:Bf<w.heap.size)
  (hg:a.eval g=.func (.func 156) #[] #[.pointer (some ⟨Bp,0,none⟩),.pointer (some ⟨Bf,0,none⟩)])
  (hp0:w.cell? ⟨Bp,0,none⟩=some (.slice Ab p.bQ.length cb)) (hp1:w.cell? ⟨Bp,1,none⟩=some (.slice As p.aP.length cs)) (hf:w.cell? ⟨Bf,0,none⟩=some (.bool f)) (hA:At w n₀ Ab (p.bQ.flatMap PG))
  (I:List (FX p f)->World->Prop) (Ix:Code->List (FX p f)->World->Prop) (hI:OwnFrom w.heap.size I) (hIx:∀c,OwnFrom w.heap.size (Ix c)) (h0:I [] w)
  (A8:∀(l:Nat) (x:FX p f) (W:World) (K:Act->World->Prop),K {tmps:=(a.tmps.setIfInBounds q (.int .i64 ((x.1:Nat):Int))).setIfInBounds sb (.int .i64 ((x.1:Nat):Int)),defers:=[]} W->
   assign.wpIn (Fence.wide.inRound l) (n - 1 - 1) prog (Exit.then K (λ_ _ _=>False)) {tmps:=a.tmps.setIfInBounds q (.int .i64 ((x.1:Nat):Int)),defers:=[]} W)
  (hbody:∀(l:Nat) (pre:List (FX p f)) (x:FX p f) (W:World),I pre W->
   body.wpIn (Fence.wide.inRound l) (n - 1 - 1) prog (ownPostG w.heap.size (KpB n₀ Bf) I Ix (pre++[x]) W) {tmps:=(a.tmps.setIfInBounds q (.int .i64 ((x.1:Nat):Int))).setIfInBounds sb (.int .i64 ((x.1:Nat):Int)),defers:=[]} W)
  (Hl:∀(W:World),I (qB p f p.bQ.length) W->Q .normal a W)
  (hstop:∀(c:Code) (k:Nat) (W:World),k<=p.bQ.length->Ix c (qB p f k) W->c.wpIn (Fence.wide.inRound l₀) n prog Q a W):
  (Code.rangeFunc g #[q] assign body).wpIn (Fence.wide.inRound l₀) n prog Q a w:=by
 refine wpIn_rangeFunc_ownN (F:=Fence.wide.inRound l₀) (l₀:=l₀) rfl hl₀ (by omega) (gf:=156) (lb:=#[.pointer (some ⟨Bp,0,none⟩),.pointer (some ⟨Bf,0,none⟩)]) hg trivial (enters_of func156 (by kernel_rfl) rfl)
  (SeqStopsK.inRound l₀ (Um Fence.wide (n - 1) trivial rfl (by omega) Bp Bf n₀ p f Ab As cb cs hlb w hn0 hBp hBf hp0 hp1 hf hA))
  (λh k=>⟨h.1.trans k.1,k.2.trans h.2⟩)
  (λW l o o' hl ho hc hw=>⟨belowK_b hn0 W l o o' hl ho hc hw,((aj w.heap.size W).grown (grownBy_putObj' W l o') (by have:=(bJ.1 ho).1;omega) (λk e=>by cases e;exact hl)).cell (p:=⟨Bf,0,none⟩) hBf⟩)
  (aj _ _) (λ_=>rfl) I Ix hI hIx h0
  (λx a' _=>a'={tmps:=(a.tmps.setIfInBounds q (.int .i64 ((x.1:Nat):Int))).setIfInBounds sb (.int .i64 ((x.1:Nat):Int)),defers:=[]})
  (λx a' _ X Y row hs hg' hr=>hs)
  (λl pre x W K hIp hK=>?_) (λl pre x a' W hl hr hIp hAx hlt=>?_) (λxs W hS hIp=>?_) (λc pre W hS hIp=>?_)
 ·have hz:Array.foldl (λt (x:Nat×Value)=>match x with|(p,v)=>t.setIfInBounds p v) a.tmps (#[q].zip #[Value.int .i64 ((x.1:Nat):Int)])=a.tmps.setIfInBounds q (.int .i64 ((x.1:Nat):Int)):=by simp
  rw[hz];exact A8 l x W K (hK _ _ (KeepsFrom.refl _ _) ⟨aj _ _,rfl⟩ hIp rfl)
 ·subst hAx;exact hbody l pre x W hIp
 ·subst hS;exact Hl W hIp
 ·obtain⟨k,hk,rfl⟩:=hS;exact hstop c k W hk hIp
end Wh
namespace Wh
open Go Go.RowKit Go.Shelf Go.Proofs Tryz
attribute [local go_sem] aT
theorem jfn(w:World)(v vs:Value)(p:dA)(s:aJ)(b g:Nat)(hp:mW w w.heap.size v p)(hv:lK w w.heap.size vs s)(hs:o9 p s)(hb:b<p.bQ.length)(hg:g<p.aP.length):
  Calls prog 104 #[v,vs,.int .i64 b,.int .i64 g] w λe w'=>e=.returned (.tuple #[.int .i64 ((p.bin b).high - (cell s.on b g+iq s b g)),.bool (decide (cell s.on b g+iq s b g<(p.bin b).low))])/\Below w.heap.size w w':=by
 have hsn:=ah hs;have hbo:b<s.on.length:=by rw[hs.tY];exact hb
 have hgl:g<(fO s.on b).length:=by rw[hs.rowLen hb];exact hg
 have hbi:(b:Int)<(s.on.length:Int):=by omega
 have hbp:(b:Int)<(p.bQ.length:Int):=by omega
 have hgi:(g:Int)<((fO s.on b).length:Int):=by omega
 have t1:=hs.cell hb hg;have t2:=xC hs b g;have t3:0<=(p.bin b).high/\(p.bin b).high<=200:=(IE hs.plan hb).2.2;have hw1:IntKind.i64.wrap (cell s.on b g+iq s b g)=cell s.on b g+iq s b g:=aN _ (by omega)
 have hw2:IntKind.i64.wrap ((p.bin b).high - (cell s.on b g+iq s b g))=(p.bin b).high - (cell s.on b g+iq s b g):=aN _ (by omega)
 clear hs;obtain⟨Ab,cb,As,cs,rfl,hP',hBn,hSz,hlb,hls⟩:=sN hp;obtain⟨A0,c0,A1,c1,A2,c2,A3,c3,A4,c4,A5,c5,A6,c6,rfl,hV,hN,hO,hH,hM,hI,hU,hX,hl0,hl1,hl2,hl3,hl4,hl5,JA⟩:=oW hv;go_enter func104,ntmps104
 go_wp2_with fail;obtain⟨W0,hW0,hb0,lg,uZ,hsE,hK⟩:=Eh w p s Ab cb As cs A0 c0 A1 c1 A2 c2 A3 c3 A4 c4 A5 c5 A6 c6;rw[hW0];clear hW0;obtain⟨⟨y0,y1⟩,x0,x1,x2,x3,x4,x5,x6,eP,eU⟩:=hK.O W0 (aj W0.heap.size W0);obtain⟨Ar,cr,or0,TQ,Yx,vS⟩:=(hN.O W0 hb0).row hbo;obtain⟨or1,lr1,QW⟩:=vS.at_.int hgl;change W0.cell? _=some (.int .i64 (cell s.on b g))at QW
 have q1:=λo d os=>bY (w:=W0) (b:=w.heap.size+1) eP o d os
 have q2:=λo d os=>bY (w:=W0) (b:=jd A0) TQ o d os
 have q3:=λo d os=>bY (w:=W0) (b:=jd Ar) lr1 o d os
 have hV2:=ah (λd os=>hV.O _ (hb0.trans ((kW W0 d os).mono hb0.size)))
 go_wp2_with fail;refine dG (by kernel_rfl) (by kernel_rfl) ?_
 repeat(go_big_quiet_step ((go_at_call 94;refine gI (UM _ _ p s b g (hV2.O _ _) hsn.O))))
 refine wpQuiet_nil ?_
 intro W1 hw';have hb1:=dD hw';clear hw';clear q1 q2 q3 hV2 or0 TQ Yx vS or1 lr1 QW;clear y0 y1 x0 x1 x2 x3 x4 x5 x6 eP eU;have hB1:=hb0.trans (hb1.mono hb0.size);obtain⟨⟨y0,y1⟩,x0,x1,x2,x3,x4,x5,x6,eP,eU⟩:=hK.O W1 (hb1);obtain⟨ob,lb,e0,e1,e2,e3⟩:=(hBn.O W1 hB1).at_.bin hb;change W1.cell? _=some (.int .i64 (p.bin b).low)at e2
 change W1.cell? _=some (.int .i64 (p.bin b).high)at e3
 clear e0 e1;go_wp2_with fail;go_quiet (fail)
 have hBd:=below_drewN hB1 nq;go_wp2_with fail;exact fD (v:=.tuple #[.int .i64 ((p.bin b).high - (cell s.on b g+iq s b g)),.bool (decide (cell s.on b g+iq s b g<(p.bin b).low))]) (by simp[results,results104,go_sem]) rfl ⟨rfl,hBd⟩
end Wh
namespace Wh
open Go Go.RowKit Go.Shelf Go.Proofs Tryz
attribute [local go_sem] aT jW jm kC
theorem dK.onCells{w:World}{aO:Nat}{V:SV}{s:aJ}(h:dK w aO V s){b g:Nat}(hb:b<s.on.length)(hg:g<(fO s.on b).length){Ic n c:Nat}(hv:V.on=.slice (some ⟨Ic,0,none⟩) n c):
  ∃gr cr,Ic<w.heap.size/\gr<w.heap.size/\w.cell? ⟨Ic,b,none⟩=some (.slice (some ⟨gr,0,none⟩) (fO s.on b).length cr)/\w.cell? ⟨gr,g,none⟩=some (.int .i64 (cell s.on b g)):=by
 obtain⟨go,co,PE,gr,cr,cur,e0,_,h0,r0,_,_,h1,rc⟩:=h.Py hb hg;rw[hv]at e0
 injection e0 with e0
 injection e0 with e0
 injection e0 with e0
 subst e0;exact⟨gr,cr,h0.lt,h1.lt,r0,rc⟩
theorem wO.on{p:dA}{s t:aJ}(h:wO p s t):t.on=s.on:=by rw[h.rest]
theorem jgT{x z N:Int}(h: -N<=x/\x<=N): -N<=x.tdiv z/\x.tdiv z<=N:=by
 have h1:(x.tdiv z).natAbs<=x.natAbs:=by rw[Int.natAbs_tdiv];exact Nat.div_le_self _ _
 omega
theorem Y1{p:dA}{t:aJ}{b g:Nat}(hs:o9 p t)(hb:b<p.bQ.length):wrap64 ((free p t b).tdiv (bI p.aP g))=(free p t b).tdiv (bI p.aP g):=by
 have h1:=RI hs (b:=b) ⟨by omega,by omega⟩ (au p.aP.length)
 rw[WT]at h1
 have h2:=jgT (x:=free p t b) (z:=bI p.aP g) (N:=60000) (by omega)
 exact IntWalk.wrap64_in _ (by omega)
theorem jcp(p:dA)(t:aJ)(b g f:Nat):(if(free p t b).tdiv (bI p.aP g)<if lU t f g<(p.bin b).high - cell t.on b g - iq t b g then lU t f g else(p.bin b).high - cell t.on b g - iq t b g then(free p t b).tdiv (bI p.aP g)
  else if lU t f g<(p.bin b).high - cell t.on b g - iq t b g then lU t f g else(p.bin b).high - cell t.on b g - iq t b g)=Hr p t b g f:=by
 unfold Hr;generalize (free p t b).tdiv (bI p.aP g)=x;generalize lU t f g=y;generalize (p.bin b).high - cell t.on b g - iq t b g=z;rw[Int.min_def,Int.min_def];split<;>split<;>split<;>(try split)<;>omega
theorem jkn(w:World)(v vs:Value)(p:dA)(s:aJ)(hp:mW w w.heap.size v p)(hv:lK w w.heap.size vs s):
  Calls prog 56 #[v,vs] w (nN (fill p s) w):=by
 obtain⟨Ab,cb,As,cs,rfl,hP',hBn,hSz,hlb,hls⟩:=sN hp;obtain⟨A0,c0,A1,c1,A2,c2,A3,c3,A4,c4,A5,c5,A6,c6,rfl,hV,hN,hO,hH,hM,hI,hU,hX,hl0,hl1,hl2,hl3,hl4,hl5,JA⟩:=oW hv;go_enter func56,ntmps56
 go_wp2_with fail;obtain⟨W0,hW0,hb0,lg,uZ,hsE,hK,hR⟩:=yD w p s Ab cb As cs A0 c0 A1 c1 A2 c2 A3 c3 A4 c4 A5 c5 A6 c6;rw[hW0];clear hW0;obtain⟨⟨y0,y1⟩,x0,x1,x2,x3,x4,x5,x6,eP,eU⟩:=hK.O W0 (aj W0.heap.size W0);go_wp2_with fail;clear y0 y1 x0 x1 x2 x3 x4 x5 x6 eP eU;refine(Ag _ _ _ p s (hP'.O _ hb0) (hV.O _ hb0)).mono ?_
 rintro e W1 ⟨rfl,h1⟩;have hB1:=hb0.trans (h1.mono hb0.size);obtain⟨⟨y0,y1⟩,x0,x1,x2,x3,x4,x5,x6,eP,eU⟩:=hK.O W1 (h1);by_cases hc:aQ p s=0
 ·have hc':=ah hc;have hsn:=ah (kM.1 hc).1;have bK:=ah (jfo hc);rw[hc];clear hc;have hcnt:=hsn.O.counts;go_wp2_with fail;clear y0 y1 x0 x1 x2 x3 x4 x5 x6 eP eU;refine(EI _ _ p s (hV.O _ hB1) hsn.O).mono ?_
  rintro e W5 ⟨_,rfl,⟨V5,rfl,AY⟩,h5⟩;obtain⟨Ic,con,_,_,_,_,Ot,_⟩:=AY.Py (b:=0) (g:=0) (by rw[hsn.O.tY];omega) (by rw[hsn.O.rowLen (by omega)];omega)
  obtain⟨k0,k1,k2,k3,k4,k5,k6,k7,k8⟩:=V5;obtain rfl:k0=.slice (some ⟨Ic,0,none⟩) s.on.length con:=Ot;have pq:=(AY).one;have xw:=vG (W5);go_wp2_with (refine dB (.tmp 7) (.tmp 20) dH (⟨.slice (some ⟨Ic,0,none⟩) s.on.length con,k1,k2,k3,k4,k5,k6,k7,k8⟩:SV) rfl xw rfl pq (λw6 lM Ib=>?_);refine aW ?_)
  unfold Hid;have sG:=qX Ib;have vT:=lM.lt;clear pq xw Ib;have hx6:=ah (Bx.of lM (AY.below sG));have h06:=h1.trans ((h5.trans (sG.mono h5.size)).mono h1.size);have hle:w.heap.size<=W1.heap.size:=hB1.size;have hle0:W0.heap.size<=W1.heap.size:=h1.size;have zZ:W1.heap.size<=W5.heap.size:=h5.size;clear lM AY sG h5 vT h1 hB1;generalize W1.heap.size=aO at hx6 hle hle0 zZ
  generalize W5.heap.size=bx at hx6 zZ ⊢
  go_wp2_with fail;go_loopw[8,9,10,11] (λb' _ _ _ wr=>∃(b:Nat) (u:Value),b<=p.bQ.length/\b'=.int .i64 b/\Bx wr aO bx 31 [] ⟨.slice (some ⟨Ic,0,none⟩) s.on.length con,k1,k2,u,k4,k5,k6,k7,k8⟩ (fb p s b)/\Below W0.heap.size W0 wr) (λb' _ _ _ _=>p.bQ.length - (RowKit.intOf b').toNat)
  case atStart=>exact⟨0,k3,aK _,rfl,hx6.O,h06⟩
  case round=>
   clear hx6 h06;obtain⟨b,u,hb,rfl,hx,h0⟩:=hrel;have hx':=ah hx;clear hx;have hB0:=hb0.trans (h0.mono hb0.size);obtain⟨⟨y0,y1⟩,x0,x1,x2,x3,x4,x5,x6,eP,eU⟩:=hK.O wr (h0);by_cases hb1:b<p.bQ.length
   ·have hbi:(b:Int)<(p.bQ.length:Int):=by omega
    go_wp2_with fail;clear y0 y1 x0 x1 x2 x3 x4 x5 x6 eP eU;have h0':=h0;clear h0 hB0;go_loopw[9,10,11] (λg' _ _ wr=>∃(g:Nat) (u:Value),g<=p.aP.length/\((p.bin b).front=false->g=0)/\g'=.int .i64 g/\Bx wr aO bx 31 [] ⟨.slice (some ⟨Ic,0,none⟩) s.on.length con,k1,k2,u,k4,k5,k6,k7,k8⟩ (fg p s b g)/\Below W0.heap.size W0 wr) (λg' _ _ _=>p.aP.length - (RowKit.intOf g').toNat)
    case atStart=>exact⟨0,u,aK _,λ_=>rfl,rfl,hx'.O,h0'⟩
    case round=>
     clear hx' h0' u;obtain⟨g,u,hg,hfg,rfl,hx,h0⟩:=hrel;have hx':=ah hx;clear hx;have hB0:=hb0.trans (h0.mono hb0.size);obtain⟨⟨y0,y1⟩,x0,x1,x2,x3,x4,x5,x6,eP,eU⟩:=hK.O wr (h0);obtain⟨ob,lb,e0,e1,e2,e3⟩:=(hBn.O wr hB0).at_.bin hb1;change wr.cell? _=some (.bool (p.bin b).front)at e0
     change wr.cell? _=some (.int .i64 (p.bin b).low)at e2
     change wr.cell? _=some (.int .i64 (p.bin b).high)at e3
     by_cases hg1:g<p.aP.length
     ·have hgi:(g:Int)<(p.aP.length:Int):=by omega
      cases hfr:(p.bin b).front
      ·rw[hfr]at e0
       have hz:=hfg hfr;have hx2:=ah (show Bx wr aO bx 31 [] ⟨.slice (some ⟨Ic,0,none⟩) s.on.length con,k1,k2,u,k4,k5,k6,k7,k8⟩ (fb p s (b+1))by rw[jmx hfr];rw[hz]at hx';exact hx'.O)
       clear hz hfr hfg;go_wp2_with fail;clear y0 y1 x0 x1 x2 x3 x4 x5 x6 eP eU;clear e0 e1 e2 e3;go_roundw
       case rel=>exact⟨b+1,u,by omega,by go_num,hx2.O,h0⟩
       case measure=>simp[RowKit.intOf];omega
      ·rw[hfr]at e0
       have hFl:=ah (Tj hc'.O hb1 hfr g hg);have jtS:=ah hfr;have hTs:=ah hFl.O.right.sane;have hon:=ah hFl.O.on;obtain⟨T,hT⟩:∃T,fg p s b g=T:=⟨_,rfl⟩;have hT':=ah hT;rw[hT]at hx' hFl hTs hon
       clear hT hfr hfg;have hbo:b<T.on.length:=by rw[hTs.O.tY];exact hb1
       have hgr:g<(fO T.on b).length:=by rw[hTs.O.rowLen hb1];exact hg1
       have jrn:(b:Int)<(s.on.length:Int):=by rw[hon.O]at hbo;omega
       have jk0:(g:Int)<((fO T.on b).length:Int):=by omega
       obtain⟨gr,cr,lon,lgr,r0,rc⟩:=hx'.O.own.onCells hbo hgr rfl;have lbx:=hx'.O.lt;have q1:=λo d os=>bY (w:=wr) (b:=bx) lbx o d os
       have q2:=λo d os=>bY (w:=wr) (b:=Ic) lon o d os
       have q3:=λo d os=>bY (w:=wr) (b:=gr) lgr o d os
       have q4:=λo d os=>bY (w:=wr) (b:=w.heap.size) eU o d os
       have q5:=λo d os=>bY (w:=wr) (b:=jd Ab) lb o d os
       have hV2:=ah (λd os=>(hx'.O.own.view hTs.O).up (kW wr d os) (kW wr d os).size)
       obtain⟨c0,c1,c2,c3,c4,c5,c6⟩:=hx'.O.cells;simp only at c0 c1 c2 c3 c4 c5 c6
       have v1:=hTs.O.cell hb1 hg1;have v2:=xC hTs.O b g;have hw1:IntKind.i64.wrap (cell T.on b g+iq T b g)=cell T.on b g+iq T b g:=aN _ (by omega)
       by_cases hl:cell T.on b g+iq T b g<(p.bin b).low
       ·have hld:decide ((p.bin b).low<=cell T.on b g+iq T b g)=false:=fA (by omega)
        go_wp2_with fail;refine dG (by kernel_rfl) (by kernel_rfl) ?_
        repeat(go_big_quiet_step ((go_at_call 107;refine gI (LU _ _ p T b g (hV2.O _ _) hTs.O))))
        refine wpQuiet_nil ?_
        intro W2 hw';have hb2:=dD hw';clear hw';have h02:=h0.trans (hb2.mono h0.size);have hx2:=ah (hx'.O.below hb2);have hlk:=ah hl;clear q1 q2 q3 q4 q5 hV2 c0 c1 c2 c3 c4 c5 c6 r0 rc hw1 hld e0 e1 e2 e3 ob lb hl lon lgr lbx hb2;clear y0 y1 x0 x1 x2 x3 x4 x5 x6 eP eU;clear h0 hB0 hx';go_wp2_with fail;go_loopw[10,11] (λf' _ wr=>∃(f:Nat) (u:Value),f<=p.bQ.length/\f'=.int .i64 f/\Bx wr aO bx 31 [] ⟨.slice (some ⟨Ic,0,none⟩) s.on.length con,k1,k2,u,k4,k5,k6,k7,k8⟩ (ff p s b g f)/\Below W0.heap.size W0 wr) (λf' _ _=>p.bQ.length - (RowKit.intOf f').toNat)
        case atStart=>exact⟨0,u,aK _,rfl,by rw[jlp,hT'.O];exact hx2.O,h02⟩
        case round=>
         clear hx2 h02;obtain⟨f,u,hf,rfl,hx,h0⟩:=hrel;have hx':=ah hx;clear hx;have hB0:=hb0.trans (h0.mono hb0.size);obtain⟨⟨y0,y1⟩,x0,x1,x2,x3,x4,x5,x6,eP,eU⟩:=hK.O wr (h0);by_cases hf1:f<p.bQ.length
         ·have hfi:(f:Int)<(p.bQ.length:Int):=by omega
          obtain⟨ob,lb,e0,_,_,_⟩:=(hBn.O wr hB0).at_.bin hf1;change wr.cell? _=some (.bool (p.bin f).front)at e0
          cases Xu:(p.bin f).front
          ·rw[Xu]at e0
           have jek:=ah (Y2 hc'.O hb1 jtS.O hg1 f hf);have JB:=ah jek.O.right.sane;have jkP:=ah jek.O.on;have hnx:=ah (Y3 (s:=s) (b:=b) (g:=g) Xu);obtain⟨U,hU⟩:∃U,ff p s b g f=U:=⟨_,rfl⟩;rw[hU]at hx' jek JB jkP hnx
           clear hU Xu;obtain⟨Am,cm,hum⟩:=hx'.O.own.aF.isSlice;obtain rfl:u=.slice Am U.aF.length cm:=hum;obtain⟨c0,c1,c2,c3,c4,c5,c6⟩:=hx'.O.cells;simp only at c0 c1 c2 c3 c4 c5 c6
           have hm8:=JB.O.vJ;by_cases h8:8<=U.aF.length
           ·have h8i:(8:Int)<=(U.aF.length:Int):=by omega
            have hx3:=ah (show Bx wr aO bx 31 [] ⟨.slice (some ⟨Ic,0,none⟩) s.on.length con,k1,k2,.slice Am U.aF.length cm,k4,k5,k6,k7,k8⟩ (ff p s b g (f+1))by rw[hnx.O,QL h8];exact hx'.O)
            go_wp2_with fail;clear y0 y1 x0 x1 x2 x3 x4 x5 x6 eP eU;clear c0 c1 c2 c3 c4 c5 c6 e0;go_roundw
            case rel=>exact⟨f+1,_,by omega,by go_num,hx3.O,h0⟩
            case measure=>simp[RowKit.intOf];omega
           ·have h8i:¬(8:Int)<=(U.aF.length:Int):=by omega
            go_wp2_with fail;clear e0 ob lb;obtain⟨ob,lb,_,_,_,e3⟩:=(hBn.O wr hB0).at_.bin hb1;change wr.cell? _=some (.int .i64 (p.bin b).high)at e3
            obtain⟨os,ls,rs⟩:=(hSz.O wr hB0).at_.int hg1;have hbo:b<U.on.length:=by rw[JB.O.tY];exact hb1
            have hgr:g<(fO U.on b).length:=by rw[JB.O.rowLen hb1];exact hg1
            have jrn:(b:Int)<(s.on.length:Int):=by rw[jkP.O]at hbo;omega
            have jk0:(g:Int)<((fO U.on b).length:Int):=by omega
            obtain⟨gr,cr,lon,lgr,r0,rc⟩:=hx'.O.own.onCells hbo hgr rfl;have lbx:=hx'.O.lt;have q1:=λo d os=>bY (w:=wr) (b:=bx) lbx o d os
            have q2:=λo d os=>bY (w:=wr) (b:=Ic) lon o d os
            have q3:=λo d os=>bY (w:=wr) (b:=gr) lgr o d os
            have q4:=λo d os=>bY (w:=wr) (b:=w.heap.size) eU o d os
            have q5:=λo d os=>bY (w:=wr) (b:=jd Ab) lb o d os
            have q6:=λo d os=>bY (w:=wr) (b:=jd As) ls o d os
            have hV2:=ah (λd os=>(hx'.O.own.view JB.O).up (kW wr d os) (kW wr d os).size)
            have hP2:=ah (λd os=>hP'.O _ (hB0.trans ((kW wr d os).mono hB0.size)))
            have v1:=JB.O.cell hb1 hg1;have v2:=xC JB.O b g;have v3:0<=(p.bin b).high/\(p.bin b).high<=200:=(IE hsn.O.plan hb1).2.2;have v4:=zH hsn.O.plan hg1;have hw1:IntKind.i64.wrap ((p.bin b).high - cell U.on b g)=(p.bin b).high - cell U.on b g:=aN _ (by omega)
            have hw2:IntKind.i64.wrap ((p.bin b).high - cell U.on b g - iq U b g)=(p.bin b).high - cell U.on b g - iq U b g:=aN _ (by omega)
            have hz:(bI p.aP g==0)=false:=xQ.2 (by omega)
            have hbb:0<=(b:Int)/\(b:Int)<p.bQ.length:=by omega
            have hgg:0<=(g:Int)/\(g:Int)<p.aP.length:=by omega
            have jnM:0<=(f:Int)/\(f:Int)<p.bQ.length:=by omega
            clear c3 hm8;have c3:=hx'.O.cells.2.2.2.1;simp only at c3
            refine dG (by kernel_rfl) (by kernel_rfl) ?_
            repeat(go_big_quiet_step (first|(go_at_call 107;refine gI (LU _ _ p U b g (hV2.O _ _) JB.O))|(go_at_call 109;refine gI (jbe _ _ p U f g (hV2.O _ _) JB.O jnM hgg))|(go_at_call 106;refine gI (Zz _ _ _ p U b (hP2.O _ _) (hV2.O _ _) JB.O hbb))))
            refine wpQuiet_nil ?_
            intro W3 hw';have hb3:=dD hw';clear hw';rw[Y1 JB.O hb1,jcp];have h03:=h0.trans (hb3.mono h0.size);have hx3:=ah (hx'.O.below hb3);clear q1 q2 q3 q4 q5 q6 hV2 hP2 c0 c1 c2 c3 c4 c5 c6 r0 rc hw1 hw2 e3 ob lb os ls rs lon lgr lbx hz hb3 hbo jrn jk0 v1 v2 v3 v4;clear y0 y1 x0 x1 x2 x3 x4 x5 x6 eP eU;clear h0 hB0 hx';by_cases wK:0<Hr p U b g f
            ·have hsm:=ah (show ff p s b g (f+1)=zC U ⟨g,f,b,Hr p U b g f⟩by rw[hnx.O,WV h8 wK])
             obtain⟨N,hN⟩:∃N,Hr p U b g f=N:=⟨_,rfl⟩;rw[hN]at hsm wK
             rw[hN];clear hN;have hmo:=ah hx3.O.own.aF;have c3:W3.cell? ⟨bx,3,none⟩=some (.slice Am U.aF.length cm):=hx3.O.cells.2.2.2.1;have lbx:=hx3.O.lt;have jtX:aO<=W3.heap.size:=by omega
             go_wp2_with (refine lS _ rfl (.tmp 120) (.tmp 126) 29 48 rfl aO _ 4 32 underlying29 KO rfl (by decide) (by decide) _ U.aF ⟨g,f,b,N⟩ rfl (hmo.O.alloc _) ⟨W3.heap.size,0,none⟩ 1 rfl rfl (uF _ _ _) (O4 _) (by omega) (by simp;omega) ?_;refine aW ?_)
             unfold Hid;intro v' w9 E8 je _ Hq;obtain⟨A9,c9,Np⟩:=E8.isSlice;rw[aZ,pX]at Np
             subst Np;have hxa:=hx3.O.below ((aj _ W3).alloc (au _) (.cells #[.int .i64 g,.int .i64 f,.int .i64 b,.int .i64 N] 48));have wC:=hxa.own.IQ je E8;have Jk:some bx≠(Value.slice Am U.aF.length cm).ownBlock:=λhe=>by
              rcases hxa.own.aF.mQ hxa.uK.blk (by decide)with h|h
              ·simp only at h;rw[h]at he;cases he
              ·exact h he.symm
             have jai:=ah (hxa.uK.grown je Jk);have X5:=ah wC;have h09:=(h03.alloc h03.size (.cells #[.int .i64 g,.int .i64 f,.int .i64 b,.int .i64 N] 48)).trans (Hq.mono hle0);clear c3 hxa wC Jk je E8 hmo hx3 Hq h03;go_wp2_with (refine LH rfl (.tmp 128) (.tmp 127) rfl rfl A9 (U.aF.length+1) c9 (V:=⟨.slice (some ⟨Ic,0,none⟩) s.on.length con,k1,k2,.slice Am U.aF.length cm,k4,k5,k6,k7,k8⟩) (V':=⟨.slice (some ⟨Ic,0,none⟩) s.on.length con,k1,k2,.slice A9 (U.aF.length+1) c9,k4,k5,k6,k7,k8⟩) (s':={U with aF:=U.aF++[⟨g,f,b,N⟩]}) (cs:=[]) (b:=bx) (by rw[iJ];exact jai.O.blk) X5.O Xp rfl rfl rfl (λw10 Dz xu=>?_);refine aW ?_)
             unfold Hid;have h010:=h09.trans (xu.below (B:=W0.heap.size) (λq hq=>by omega) h09.size)
             have sK:=ah (show Bx w10 aO bx 31 [] ⟨.slice (some ⟨Ic,0,none⟩) s.on.length con,k1,k2,.slice A9 (U.aF.length+1) c9,k4,k5,k6,k7,k8⟩ (ff p s b g (f+1))by rw[hsm.O];exact Dz)
             clear Dz xu h09 jai X5;go_wp2_with fail;go_roundw
             case rel=>exact⟨f+1,_,by omega,by go_num,sK.O,h010⟩
             case measure=>simp[RowKit.intOf];omega
            ·have hx4:=ah (show Bx W3 aO bx 31 [] ⟨.slice (some ⟨Ic,0,none⟩) s.on.length con,k1,k2,.slice Am U.aF.length cm,k4,k5,k6,k7,k8⟩ (ff p s b g (f+1))by rw[hnx.O,WW h8 wK];exact hx3.O)
             clear hx3;go_wp2_with fail;go_roundw
             case rel=>exact⟨f+1,_,by omega,by go_num,hx4.O,h03⟩
             case measure=>simp[RowKit.intOf];omega
          ·rw[Xu]at e0
           have hx3:=ah (show Bx wr aO bx 31 [] ⟨.slice (some ⟨Ic,0,none⟩) s.on.length con,k1,k2,u,k4,k5,k6,k7,k8⟩ (ff p s b g (f+1))by rw[jcq Xu];exact hx'.O)
           clear Xu;go_wp2_with fail;clear y0 y1 x0 x1 x2 x3 x4 x5 x6 eP eU;clear e0;go_roundw
           case rel=>exact⟨f+1,u,by omega,by go_num,hx3.O,h0⟩
           case measure=>simp[RowKit.intOf];omega
         ·obtain rfl:f=p.bQ.length:=by omega
          have hx3:=ah (show Bx wr aO bx 31 [] ⟨.slice (some ⟨Ic,0,none⟩) s.on.length con,k1,k2,u,k4,k5,k6,k7,k8⟩ (fg p s b (g+1))by rw[jjo (by rw[hT'.O];exact hlk.O)];exact hx'.O)
          go_wp2_with fail;clear y0 y1 x0 x1 x2 x3 x4 x5 x6 eP eU;go_roundw
          case rel=>exact⟨g+1,u,by omega,(λhh=>absurd hh (by decide)),by go_num,hx3.O,h0⟩
          case measure=>simp[RowKit.intOf];omega
       ·have hld:decide ((p.bin b).low<=cell T.on b g+iq T b g)=true:=iG (by omega)
        have hno:=ah (show fg p s b (g+1)=T by rw[<- hT'.O];exact joo (by rw[hT'.O];exact hl))
        clear hl;go_wp2_with fail;refine dG (by kernel_rfl) (by kernel_rfl) ?_
        repeat(go_big_quiet_step ((go_at_call 107;refine gI (LU _ _ p T b g (hV2.O _ _) hTs.O))))
        refine wpQuiet_nil ?_
        intro W2 hw';have hb2:=dD hw';clear hw';have h02:=h0.trans (hb2.mono h0.size);have hx2:=ah (show Bx W2 aO bx 31 [] ⟨.slice (some ⟨Ic,0,none⟩) s.on.length con,k1,k2,u,k4,k5,k6,k7,k8⟩ (fg p s b (g+1))by rw[hno.O];exact hx'.O.below hb2)
        clear q1 q2 q3 q4 q5 hV2 c0 c1 c2 c3 c4 c5 c6 r0 rc hw1 hld e0 e1 e2 e3 ob lb;clear y0 y1 x0 x1 x2 x3 x4 x5 x6 eP eU;go_wp2_with fail;go_roundw
        case rel=>exact⟨g+1,u,by omega,(λhh=>absurd hh (by decide)),by go_num,hx2.O,h02⟩
        case measure=>simp[RowKit.intOf];omega
     ·obtain rfl:g=p.aP.length:=by omega
      have hfr:(p.bin b).front=true:=by
       cases hh:(p.bin b).front
       ·have:=hfg hh;omega
       ·rfl
      have hx2:=ah (show Bx wr aO bx 31 [] ⟨.slice (some ⟨Ic,0,none⟩) s.on.length con,k1,k2,u,k4,k5,k6,k7,k8⟩ (fb p s (b+1))by rw[jjp hfr];exact hx'.O)
      clear hfr hfg;go_wp2_with fail;clear y0 y1 x0 x1 x2 x3 x4 x5 x6 eP eU;clear e0 e1 e2 e3;go_roundw
      case rel=>exact⟨b+1,u,by omega,by go_num,hx2.O,h0⟩
      case measure=>simp[RowKit.intOf];omega
   ·obtain rfl:b=p.bQ.length:=by omega
    have hx2:=ah (show Bx wr aO bx 31 [] ⟨.slice (some ⟨Ic,0,none⟩) s.on.length con,k1,k2,u,k4,k5,k6,k7,k8⟩ (Oq p s)by rw[<- jop];exact hx'.O)
    clear hx';have fH:=hR.O _ h0;obtain⟨b0,b1,b2,b3,b4,b5,b6⟩:=jk.cells hx2.O.uK;have lG:=dK.one hx2.O.own;go_wp2_with (refine dB (.tmp 4) (.tmp 129) dH (⟨.slice (some ⟨Ic,0,none⟩) s.on.length con,k1,k2,u,k4,k5,k6,k7,k8⟩:SV) rfl fH rfl lG (λw9 dM je=>?_))
    have wC:=dK.keptBy hx2.O.own je fH (by decide) (by decide) (by decide) (by decide) (by decide) (by decide)
    have dN:=Below.gB hB0 je;clear b0 b1 b2 b3 b4 b5 b6;go_wp2_with fail;exact jo results56 dM rfl rfl (EZ bK.O (wC.from_ hle) dN)
 ·have hne:(aQ p s !=0)=true:=by simpa using hc
  have bK:=ah (jco hc);clear hc;have fH:=hR.O _ h1;go_wp2_with (refine dB (.tmp 4) (.tmp 17) dH dH rfl fH rfl rfl (λw9 dM je=>?_))
  have dN:=Below.gB hB1 je;go_wp2_with fail;exact jo results56 dM rfl rfl (jQ bK.O dN)
end Wh
namespace Wh
open Go Go.RowKit Go.Shelf Go.Proofs Tryz
attribute [local go_sem] aT jW jm kC
attribute [local go_sem] Oper.semAt_some
section
variable {p:dA} {s:aJ}
def Yt(p:dA)(s:aJ)(pre:List (FX p true)):aJ:=(pre.map Subtype.val).foldl (λt b=>(List.range p.aP.length).foldl (sW p b) t) s
theorem ja0(pre:List (FX p true))(x:FX p true):Yt p s (pre++[x])=(List.range p.aP.length).foldl (sW p x.1) (Yt p s pre):=by
 unfold Yt;rw[fJ,ng];rfl
theorem jeO:Yt p s (qB p true p.bQ.length)=Oq p s:=by
 unfold Yt;rw[Qs p true _ (au _)];rfl
theorem jgX{k:Nat}(hk:k<=p.bQ.length)(h:8<=(Yt p s (qB p true k)).aF.length):Oq p s=Yt p s (qB p true k):=by
 obtain⟨r,hr⟩:=Qu p true p.bQ.length k hk;rw[<- jeO,hr];unfold Yt at h ⊢
 rw[fJ,ng];exact X8 h p _
theorem jdc(h:aQ p s=0)(pre:List (FX p true)):wO p s (Yt p s pre):=
 DJ (P:=wO p s) (λt b hb ht=>by
  obtain⟨x,_,rfl⟩:=kV.1 hb;exact QK ht x.2.1 x.2.2) (Om h)
def gdX(p:dA)(b:Nat)(t:aJ)(g:Nat):aJ:=(List.range g).foldl (sW p b) t
theorem WM(b:Nat)(t:aJ)(g:Nat):gdX p b t (g+1)=sW p b (gdX p b t g) g:=by
 unfold gdX;rw[lJ,ng];rfl
theorem jci{b:Nat}{t:aJ}{g:Nat}(h:8<=(gdX p b t g).aF.length):∀n,g<=n->gdX p b t n=gdX p b t g
 |0,hn=>by
  obtain rfl:g=0:=by omega
  rfl
 |n+1,hn=>by
  by_cases he:g=n+1
  ·rw[he]
  ·rw[WM,jci h n (by omega),P8 h]
theorem WO{t:aJ}{b:Nat}(h:wO p s t)(hb:b<p.bQ.length)(hf:(p.bin b).front=true):∀g,g<=p.aP.length->wO p s (gdX p b t g)
 |0,_=>h
 |g+1,hg=>by
  rw[WM];exact Oo (WO h hb hf g (by omega)) hb (by omega) hf
def XH(p:dA)(b g:Nat)(t:aJ)(pre:List (FX p false)):aJ:=(pre.map Subtype.val).foldl (λt f=>Ie p t b g f) t
theorem jg3(b g:Nat)(t:aJ)(pre:List (FX p false))(x:FX p false):XH p b g t (pre++[x])=Ie p (XH p b g t pre) b g x.1:=by
 unfold XH;rw[fJ,ng];rfl
theorem jkc{b g:Nat}{t:aJ}(h:cell t.on b g+iq t b g<(p.bin b).low):sW p b t g=XH p b g t (qB p false p.bQ.length):=by
 unfold XH sW;rw[Qs p false _ (au _),aB h];rfl
theorem jg4{b g k:Nat}{t:aJ}(hk:k<=p.bQ.length)(h:8<=(XH p b g t (qB p false k)).aF.length):XH p b g t (qB p false p.bQ.length)=XH p b g t (qB p false k):=by
 obtain⟨r,hr⟩:=Qu p false p.bQ.length k hk;rw[hr];unfold XH at h ⊢
 rw[fJ,ng];generalize (qB p false k).map Subtype.val=l at h ⊢
 generalize l.foldl (λt f=>Ie p t b g f) t=u at h ⊢
 clear hr;induction r with
 |nil=>rfl
 |cons x r ih=>
  rw[dn,fB,QL h];exact ih
theorem jde{t:aJ}{b g:Nat}(h:wO p s t)(hb:b<p.bQ.length)(hf:(p.bin b).front=true)(hg:g<p.aP.length)(pre:List (FX p false)):wO p s (XH p b g t pre):=
 DJ (P:=wO p s) (λt f hm ht=>by
  obtain⟨x,_,rfl⟩:=kV.1 hm;exact QJ ht hb hg x.2.1 hf x.2.2) h
end
def jhT(aO bx:Nat)(V:Value->SV)(L:List (Nat×Obj))(W0:World)(T:aJ)(W:World):Prop:=
 (∃u,Bx W aO bx 31 [] (V u) T)/\pU L W/\Below W0.heap.size W0 W
theorem YS{β:Type}{aO bx:Nat}{V:Value->SV}{L:List (Nat×Obj)}{W0:World}(T:β->aJ){B:Nat}(hL:∀x∈L,x.1<B)(hB:W0.heap.size<=B):OwnFrom B (λs W=>jhT aO bx V L W0 (T s) W):=
 λs X Y row hs hg hr=>by
  obtain⟨⟨u,h1⟩,h2,h3⟩:=hs;exact⟨⟨u,h1.wB hg λr e=>(hr r e).2⟩,pU.from_ hL s X Y row h2 hg hr,h3.grown hg h3.size (λk hk=>by have:=(hr k hk).1;omega)⟩
theorem pU.below{L:List (Nat×Obj)}{W W':World}(h:pU L W)(hb:Below W.heap.size W W'):pU L W':=λx hx=>(hb.block x.1 (h.lt x hx)).trans (h x hx)
theorem KeepsFrom.weak{B B':Nat}{W W':World}(h:KeepsFrom B W W')(hB:B<=B'):KeepsFrom B' W W':=⟨h.size,λk o hk ho hc=>h.same k o (aY hB hk) ho hc⟩
structure Ei(L:List (Nat×Obj))(aO B7:Nat)(Wo W:World):Prop where
 held:pU L W
 b:Below aO Wo W
 k:KeepsFrom B7 Wo W
namespace Ei
variable {L:List (Nat×Obj)} {aO B7:Nat} {Wo W W':World}
theorem refl(h:pU L W):Ei L aO B7 W W:=⟨h,aj _ _,KeepsFrom.refl _ _⟩
theorem trans{L':List (Nat×Obj)}(h:Ei L aO B7 Wo W)(h':Ei L' aO B7 W W'):Ei L' aO B7 Wo W':=⟨h'.held,h.b.trans h'.b,h.k.trans h'.k⟩
theorem below(h:Ei L aO B7 Wo W)(hn:aO<=Wo.heap.size)(hb:Below W.heap.size W W'):Ei L aO B7 Wo W':=⟨h.held.below hb,h.b.trans (hb.mono (aY hn h.k.size)),h.k.trans (Di hb)⟩
theorem grown(h:Ei L aO B7 Wo W)(hn:aO<=Wo.heap.size){row:Option Nat}(hg:W.grownBy W' row)(hr:∀r,row=some r->aO<=r/\(∃cs t sp,W.heap[r]?=some (.cells cs t sp))/\∀x∈L,x.1≠r):Ei L aO B7 Wo W':=
 ⟨h.held.grown hg λx hx he=>(hr _ he.symm).2.2 x hx rfl,h.b.trans ((aj _ _).grown hg (aY hn h.k.size) λr e=>(hr r e).1),h.k.trans (G7 hg λr e=>(hr r e).2.1)⟩
theorem step(h:Ei L aO B7 Wo W)(hn:aO<=Wo.heap.size){b:Nat}(hs:Step (·=b) W W')(hb:aO<=b)(hc:∃cs t sp,W.heap[b]?=some (.cells cs t sp))(hL:∀x∈L,x.1≠b):Ei L aO B7 Wo W':=by
 refine⟨λx hx=>hs.heap (h.held x hx) (hL x hx),h.b.trans (hs.below (λq hq=>by omega) (aY hn h.k.size)),h.k.trans ⟨hs.size,λk o _ hk ho=>hs.heap hk λhe=>?_⟩⟩
 subst he;obtain⟨cs,t,sp,hc⟩:=hc;rw[hc]at hk
 injection hk with hk
 subst hk;cases ho
theorem own{β:Type}{B:Nat}(hL:∀x∈L,x.1<B)(hn:aO<=Wo.heap.size)(hB:Wo.heap.size<=B):OwnFrom B (λ(_:β) W=>Ei L aO B7 Wo W):=λs X Y row hs hg hr=>
 ⟨pU.from_ hL s X Y row hs.held hg hr,ownFrom_below hn (aY hn hB) s X Y row hs.b hg hr,ownFrom_keepsFrom hB s X Y row hs.k hg hr⟩
end Ei
def jhS(aO bx:Nat)(V:Value->SV)(L:List (Nat×Obj))(B7:Nat)(Wo:World)(T:aJ)(W:World):Prop:=
 (∃u,Bx W aO bx 31 [] (V u) T)/\Ei L aO B7 Wo W
theorem YR{β:Type}{aO bx B7:Nat}{V:Value->SV}{L:List (Nat×Obj)}{Wo:World}(T:β->aJ){B:Nat}(hL:∀x∈L,x.1<B)(hn:aO<=Wo.heap.size)(hB:Wo.heap.size<=B):OwnFrom B (λs W=>jhS aO bx V L B7 Wo (T s) W):=
 λs X Y row hs hg hr=>by
  obtain⟨⟨u,h1⟩,h2⟩:=hs;exact⟨⟨u,h1.wB hg λr e=>(hr r e).2⟩,Ei.own hL hn hB s X Y row h2 hg hr⟩
theorem XA{P:Program}(w:World){F:Fence}{n:Nat}{α:Type}{enc:α->List Value}{ops:Array Oper}{rest:List Oper}{o:Oper}{a:Act}{Q:Exit->Act->World->Prop}(hgd:o.guard=none)(s x:Operand)(t e:TypeId)
  (ho:o.op=.call {callee:=.builtin .append,args:=#[s,x],argTypes:=#[t,t]}) (aO:Nat) (z:Value) (size bytes:Nat) (ht:P.underlying t=some (.slice e)) (hi:Elem P e z size bytes)
  (hzs:z.cells.size=size) (hsz:0<size) (hby:bytes<=64) (v:Value) (l:List α) (y:α) (hs:a.eval s=v) (lC:Own enc size e w aO v l)
  (ad:Addr) (c:Nat) (hx:a.eval x=.slice (some ad) 1 c) (hl:(enc y).length=size) (hnews:∀j u,(enc y)[j]?=some u->w.cell? (ad.add j)=some u) (h1:∀u∈enc y,u.oneCell'=true)
  (hn:l.length<=1000000) (rV:aO<=w.heap.size)
  (h:∀v' w',Own enc size e w' aO v' (l++[y])->w.grownBy w' v.ownBlock->Below aO w w'->wpListIn F n P ops Q rest (a.put o.dst v') w'):
  wpListIn F n P ops Q (o::rest) a w:=by
 obtain⟨i,hi,hz,G8,hbytes⟩:=hi;have hb:(l.length+1)*bytes<=140737488355328:=aY (uV (show l.length+1<=1000001 by omega) hby) (by decide)
 refine wpListIn_append_own w hgd s x t ho aO e i z size bytes ht hi hz G8 hbytes hzs hsz v l.length _ hs lC ad 1 c (enc y) hx (by rw[hl,Es]) hnews h1 (by unfold maxLen;omega) hb rV ?_
 intro v' w' h2 h3 _;refine h v' w' ?_ h3 ((aj _ _).grown h3 rV λk hk=>(nK lC k hk).1)
 unfold Own;rw[aZ,gy];simpa using h2
end Wh
