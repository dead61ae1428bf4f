/- Texts of the claim, joined. -/
import Derived.Laws.MakeOwn
import Derived.StillTailTactics
import Derived.Still
import Derived.BigQuiet
import Derived.Deep.RegionLaw
import Derived.Laws.IdiomStrings
import Derived.Test.YtfhfkijmebhgmaaGreatQ33
set_option maxHeartbeats 20000000
set_option maxRecDepth 100000
namespace Wh
open Go Go.RowKit Go.Shelf Go.Proofs Tryz
attribute [local go_sem] au dQ dI dX
theorem Own.rC {α:Type} {enc:α→List Value} {size:Nat} {e:TypeId} {w:World} {base g:Nat} {cs:Array Value} {l:List α} (hb:base≤g) (hg:w.heap[g]?=some (.cells cs e)) (hc:cs.toList=l.flatMap enc)
  (hk:∀ x,(enc x).length=size) (hl:l.length≤1000000):Own enc size e w base (.slice (some ⟨g,0,none⟩) l.length l.length) l:=by
 refine ⟨by rw [flat_length enc size hk],.inr ⟨g,l.length,cs,rfl,hb,hg,aA _,by unfold maxLen;omega,?_,?_⟩⟩
 ·rw [← Bv,hc,flat_length enc size hk]
 ·rw [hc,← flat_length enc size hk,jE]
def SL:State:=⟨[[9,0],[3,0],[0,6]],[⟨1,[⟨0,6,1,0⟩,⟨1,9,0,3⟩]⟩,⟨0,[⟨0,4,0,0⟩]⟩],[⟨0,0,0,2⟩,⟨0,0,1,3⟩,⟨0,1,2,6⟩],[⟨0,0,1,5⟩],[13,6],[1,0],[0,0]⟩
def MX (n:Nat):SV:=
 ⟨.slice (some ⟨n+4,0,none⟩) 3 3,.slice (some ⟨n+7,0,none⟩) 2 2,.slice (some ⟨n+8,0,none⟩) 3 3,.slice (some ⟨n+9,0,none⟩) 1 1,.slice (some ⟨n+10,0,none⟩) 2 2,.slice (some ⟨n+11,0,none⟩) 2 2,.slice (some ⟨n+12,0,none⟩) 2 2,
  [.slice (some ⟨n+1,0,none⟩) 2 2,.slice (some ⟨n+2,0,none⟩) 2 2,.slice (some ⟨n+3,0,none⟩) 2 2],[.slice (some ⟨n+5,0,none⟩) 2 2,.slice (some ⟨n+6,0,none⟩) 1 1]⟩
def jhc (n:Nat):List Obj:=[
 .cells (MX n).cells.toArray 31,
 .cells #[.int .i64 9,.int .i64 0] 3,.cells #[.int .i64 3,.int .i64 0] 3,.cells #[.int .i64 0,.int .i64 6] 3,
 .cells #[.slice (some ⟨n+1,0,none⟩) 2 2,.slice (some ⟨n+2,0,none⟩) 2 2,.slice (some ⟨n+3,0,none⟩) 2 2] 23,
 .cells #[.int .i64 0,.int .i64 6,.int .i64 1,.int .i64 0,.int .i64 1,.int .i64 9,.int .i64 0,.int .i64 3] 44,
 .cells #[.int .i64 0,.int .i64 4,.int .i64 0,.int .i64 0] 44,
 .cells #[.int .i64 1,.slice (some ⟨n+5,0,none⟩) 2 2,.int .i64 0,.slice (some ⟨n+6,0,none⟩) 1 1] 42,
 .cells #[.int .i64 0,.int .i64 0,.int .i64 0,.int .i64 2,.int .i64 0,.int .i64 0,.int .i64 1,.int .i64 3,.int .i64 0,.int .i64 1,.int .i64 2,.int .i64 6] 46,
 .cells #[.int .i64 0,.int .i64 0,.int .i64 1,.int .i64 5] 48,
 .cells #[.int .i64 13,.int .i64 6] 3,.cells #[.int .i64 1,.int .i64 0] 3,.cells #[.int .i64 0,.int .i64 0] 3]
def lay (w:World) (os:List Obj):World:={w with heap:=w.heap++os.toArray}
theorem jdt (w:World) (os:List Obj) (o:Obj):(lay w os).alloc o=lay w (os++[o]):=by
 unfold lay World.alloc;simp
theorem jh0 (w:World):lay w []=w:=by unfold lay;simp
theorem jdr (w:World) (os:List Obj):lay w os=os.foldl World.alloc w:=by
 suffices h:∀ (os ps:List Obj),lay w (ps++os)=os.foldl World.alloc (lay w ps) by
  have:=h os [];rwa [jh0] at this
 intro os;induction os with
 |nil=>intro ps;simp
 |cons o os ih=>
  intro ps;have:=ih (ps++[o]);rw [jH,jdt,← this];simp
theorem jds (w:World) (os:List Obj):Below w.heap.size w (lay w os):=dZ w w.drawn os.toArray
theorem jkq (w:World) (os:List Obj) (i:Nat):(lay w os).heap[w.heap.size+i]?=os[i]?:=by
 unfold lay;rw [XW (by omega)]
 simp
theorem ji0 (w:World):aO (lay w (jhc w.heap.size)) w.heap.size (MX w.heap.size) SL:=by
 have H:=jkq w (jhc w.heap.size);refine ⟨Own.rC (by omega) (H 4) rfl (fun _=>rfl) (by simp [MX]),rfl,fun b hb=>?_,Own.rC (by omega) (H 7) rfl (fun _=>rfl) (by simp [pU,SL,MX]),rfl,fun o ho=>?_,Own.rC (by omega) (H 8) rfl (fun _=>rfl) (by decide),Own.rC (by omega) (H 9) rfl (fun _=>rfl) (by decide),
  Own.rC (by omega) (H 10) rfl (fun _=>rfl) (by decide),Own.rC (by omega) (H 11) rfl (fun _=>rfl) (by decide),Own.rC (by omega) (H 12) rfl (fun _=>rfl) (by decide),?_,?_⟩
 ·match b,hb with
  |0,_=>exact Own.rC (l:=([9,0]:List Int)) (by omega) (H 1) rfl (fun _=>rfl) (by decide)
  |1,_=>exact Own.rC (l:=([3,0]:List Int)) (by omega) (H 2) rfl (fun _=>rfl) (by decide)
  |2,_=>exact Own.rC (l:=([0,6]:List Int)) (by omega) (H 3) rfl (fun _=>rfl) (by decide)
  |b+3,hb=>simp [SL] at hb;omega
 ·match o,ho with
  |0,_=>exact Own.rC (l:=([⟨0,6,1,0⟩,⟨1,9,0,3⟩]:List Line)) (by omega) (H 5) rfl (fun _=>rfl) (by decide)
  |1,_=>exact Own.rC (l:=([⟨0,4,0,0⟩]:List Line)) (by omega) (H 6) rfl (fun _=>rfl) (by decide)
  |o+2,ho=>simp [SL] at ho;omega
 ·unfold um MX;simp [Value.ownBlock]
 ·unfold um MX;simp [Value.ownBlock]
theorem jnp (w:World):Calls prog 42 #[] w fun e w'=>∃ V,e=.returned V.val∧aO w' w.heap.size V SL∧Below w.heap.size w w':=by
 go_enter func42,ntmps42
 go_wp2_with fail;have h1:=ji0 w;have h2:=jds w (jhc w.heap.size);rw [jdr] at h1 h2
 refine jS (v:=(MX w.heap.size).val) ?_ rfl ⟨MX w.heap.size,rfl,h1,h2⟩
 simp [results,results42,go_sem,SV.val,MX]
def small (s:State):Bool:=decide (s.on.length≤1000)&&s.on.all (fun r=>decide (r.length≤1000))&&decide (s.orders.length≤1000)&&s.orders.all (fun o=>decide (o.lines.length≤1000))&&decide (s.holds.length≤1000)&&decide (s.moves.length≤1000)&&decide (s.inn.length≤1000)&&decide (s.out.length≤1000)&&decide (s.fixed.length≤1000)
theorem aO.view0 {w:World} {base:Nat} {V:SV} {s:State} (h:aO w base V s) (hs:small s=true):fE w w.heap.size V.val s:=by
 unfold small at hs
 simp only [dL,dR,bY] at hs
 obtain ⟨⟨⟨⟨⟨⟨⟨⟨s1,s2⟩,s3⟩,s4⟩,s5⟩,s6⟩,s7⟩,s8⟩,s9⟩:=hs;obtain ⟨A,c,hv,_,hA⟩:=h.on.sl (by rw [h.rlen];omega)
 obtain ⟨A1,c1,hv1,_,hA1⟩:=h.orders.sl (by rw [kV h.llen];omega)
 refine ⟨_,_,_,_,_,_,_,rfl,⟨A,c,V.rows,by rw [hv,h.rlen],by omega,h.rlen,?_,fun i x hi=>?_⟩,⟨A1,c1,V.lines,by rw [hv1,kV h.llen],by omega,h.llen,?_,fun i x hi=>?_⟩,h.holds.sl (by omega),h.moves.sl (by omega),h.inn.sl (by omega),h.out.sl (by omega),h.fixed.sl (by omega)⟩
 ·have:V.rows.flatMap (fun u=>[u])=V.rows:=by simp
  rw [this] at hA
  exact hA
 ·have hil:i<s.on.length:=(lC.1 hi).1
  have hx:rowAt s.on i=x:=by rw [oh hil];exact (lC.1 hi).2
  have:=s2 x (Ld hi);exact ⟨_,h.jeL hil,by rw [← hx];exact (h.row i hil).sl (by rw [hx];omega)⟩
 ·have e:(s.orders.zip V.lines).flatMap (fun x=>[Value.int .i64 x.1.kind,x.2])=(pU s.orders V.lines).flatMap Gh:=by
   unfold pU Gh;rw [Xx,Lp,Lp,Lh,Lh]
  rw [e];exact hA1
 ·have hil:i<s.orders.length:=(lC.1 hi).1
  have hx:s.order i=x:=by unfold State.order;rw [kM hil];exact (lC.1 hi).2
  have:=s4 x (Ld hi);exact ⟨_,h.jcD hil,by rw [← hx];exact (h.line i hil).sl (by rw [hx];omega)⟩
end Wh
namespace Wh
open Go Go.RowKit Go.Shelf Go.Proofs Tryz
attribute [local go_sem] au dQ dI dX
theorem jaF {p:Plan} {s:State} (h:iI p s):small s=true:=by
 have hc:=h.counts;have h4:=h.jh;have h8:=h.lJ;have h72:=jJ h.holds;unfold small;simp only [dL,dR,bY];refine ⟨⟨⟨⟨⟨⟨⟨⟨?_,fun r hr=>?_⟩,?_⟩,fun o ho=>?_⟩,?_⟩,?_⟩,?_⟩,?_⟩,?_⟩
 ·rw [h.ku];omega
 ·obtain ⟨i,hi,rfl⟩:=cZ hr;have h1:=h.rowLen (b:=i) (by rw [← h.ku];exact hi)
  rw [oh hi] at h1
  omega
 ·omega
 ·obtain ⟨i,hi,rfl⟩:=cZ ho;have h1:=h.jX hi;unfold State.order at h1
  rw [kM hi] at h1
  omega
 ·omega
 ·omega
 ·rw [h.inn.1];omega
 ·rw [h.out.1];omega
 ·rw [h.fixed.1];omega
theorem Ov {p:Plan} {s:State} (h:checkState p s=0):small s=true:=jaF (dV.1 h).1
end Wh
namespace Wh
open Go Go.RowKit Go.Shelf Go.Proofs Tryz
attribute [local go_sem] au dQ dI dX
theorem At.tail {w:World} {B g o:Nat} {xs ys:List Value} (h:At w B (some ⟨g,o,none⟩) (xs++ys)):At w B (some ⟨g,o+xs.length,none⟩) ys:=by
 intro hn;obtain ⟨h1,h2,h3⟩:=h (by simp [hn])
 refine ⟨⟨g,_,rfl⟩,h2,fun j v hj=>?_⟩
 have:=h3 (xs.length+j) v (by rw [yT (by omega),Nat.add_sub_cancel_left];exact hj)
 rw [← Nat.add_assoc] at this
 exact this
end Wh
namespace Wh
open Go Go.RowKit Go.Shelf Go.Proofs Tryz
attribute [local go_sem] au dQ dI dX
theorem Sj (p:Plan) (s:State) (x:qo):small (act p s x).1=true:=by
 by_cases h:(act p s x).2=0
 ·exact Ov (jad h).2.check
 ·have:(act p s x).1=dJ:=by
   have f:∀ {r:State×Int},(r.2≠0→r.1=dJ)→r.2≠0→r.1=dJ:=fun h h2=>h h2
   revert h
   unfold act;split
   ·unfold receive;repeat' split;all_goals (intro h;first|rfl|exact absurd rfl h)
   split
   ·unfold enter;repeat' split;all_goals (intro h;first|rfl|exact absurd rfl h)
   split
   ·unfold release;repeat' split;all_goals (intro h;first|rfl|exact absurd rfl h)
   split
   ·unfold cancel;repeat' split;all_goals (intro h;first|rfl|exact absurd rfl h)
   split
   ·unfold pick;repeat' split;all_goals (intro h;first|rfl|exact absurd rfl h)
   split
   ·unfold fill;repeat' split;all_goals (intro h;first|rfl|exact absurd rfl h)
   split
   ·unfold moved;repeat' split;all_goals (intro h;first|rfl|exact absurd rfl h)
   split
   ·unfold count;repeat' split;all_goals (intro h;first|rfl|exact absurd rfl h)
   intro _;rfl
  rw [this];decide
end Wh
namespace Wh
open Go Go.RowKit Go.Shelf Go.Proofs Tryz
attribute [local go_sem] au dQ dI dX
theorem zV {P:Program} (w:World) {α:Type} {enc:α→List Value} {ops:Array Oper} {rest:List Oper} {o:Oper} {a:Act} {Q:Exit→Act→World→Prop} (hgd:o.guard=none) (s x:Operand) (t e:TypeId)
  (ho:o.op=.call {callee:=.builtin .append,args:=#[s,x],argTypes:=#[t,t]}) (base:Nat) (z:Value) (size bytes:Nat) (ht:P.underlying t=some (.slice e)) (hi:Elem P e z size bytes)
  (hzs:z.cells.size=size) (hsz:0<size) (v:Value) (l:List α) (y:α) (hs:a.eval s=v) (hown:Own enc size e w base v l)
  (ad:Addr) (c:Nat) (hx:a.eval x=.slice (some ad) 1 c) (hl:(enc y).length=size) (hnews:∀ j u,(enc y)[j]?=some u→w.cell? (ad.add j)=some u) (h1:∀ u∈enc y,u.oneCell'=true)
  (hn:(l.length+1)*bytes≤140737488355328) (hn2:l.length+1≤140737488355328) (hbase:base≤w.heap.size)
  (h:∀ v' w',Own enc size e w' base v' (l++[y])→w.grownBy w' v.ownBlock→(v'.ownBlock=v.ownBlock∨v'.ownBlock=some w.heap.size)→Below base w w'→wpList P ops Q rest (a.put o.dst v') w'):
  wpList P ops Q (o::rest) a w:=by
 obtain ⟨i,hi,hz,hsize,hbytes⟩:=hi;refine wpList_append_own_at w hgd s x t ho base e i z size bytes ht hi hz hsize hbytes hzs hsz v l.length _ hs hown ad 1 c (enc y) hx (by rw [hl,Px]) hnews h1 (by unfold maxLen;omega) hn hbase ?_
 intro v' w' h2 h3 _ h5;refine h v' w' ?_ h3 h5 ((aj _ _).grown h3 hbase fun k hk=>(yO hown k hk).1)
 unfold Own;rw [dK,lD];simpa using h2
def JO (n:Nat):List Value:=[.int .u8 n]
theorem one_byte (n:Nat):∀ u∈JO n,u.oneCell'=true:=by simp [JO,Value.oneCell']
theorem infoByte:Elem prog 5 (.int .u8 0) 1 1:=Af (by kernel_rfl)
def byteOf (n:Int):Nat:=(IntKind.u8.wrap n).toNat
theorem Oy (n:Int):IntKind.u8.wrap n=(byteOf n:Int):=by
 unfold byteOf;rw [PX];omega
theorem rF {n:Int} (h:isByte n=true):byteOf n=n.toNat:=by
 rw [Fv] at h
 unfold byteOf;rw [PX];omega
def yE (w:World) (base pb:Nat) (v:Value) (bad:Bool) (bs:List Nat):Prop:=dw w pb 117 [v,.bool bad]∧Own JO 1 5 w base v bs
theorem yE.below {w w':World} {base pb:Nat} {v:Value} {bad:Bool} {bs:List Nat} (h:yE w base pb v bad bs) (hb:Below w.heap.size w w'):yE w' base pb v bad bs:=
 ⟨h.1.below hb h.1.lt,h.2.below hb⟩
theorem yE.alloc {w:World} {base pb:Nat} {v:Value} {bad:Bool} {bs:List Nat} (h:yE w base pb v bad bs) (o:Obj):yE (w.alloc o) base pb v bad bs:=h.below ((aj _ _).alloc (aA _) _)
theorem yE.push {w w':World} {base pb:Nat} {v v':Value} {bad:Bool} {bs bs':List Nat} (h:yE w base pb v bad bs) (hg:w.grownBy w' v.ownBlock) (ho:Own JO 1 5 w' base v' bs'):yE (w'.setCell ⟨pb,0,none⟩ v') base pb v' bad bs'∧w'.grownBy (w'.setCell ⟨pb,0,none⟩ v') (some pb):=by
 have hb:dw w' pb 117 [v,.bool bad]:=h.1.grown hg (by
  rcases Own.iD h.2 h.1 (by decide) with hn|hn
  ·rw [hn];intro he;cases he
  ·exact fun he=>hn he.symm)
 obtain ⟨h1,h2⟩:=pF hb 0 v';exact ⟨⟨h1,ho.kept h2 (Own.iD ho hb (by decide))⟩,h2⟩
theorem yE.mark {w:World} {base pb:Nat} {v:Value} {bad:Bool} {bs:List Nat} (h:yE w base pb v bad bs) (c:Bool):yE (w.setCell ⟨pb,1,none⟩ (.bool c)) base pb v c bs∧w.grownBy (w.setCell ⟨pb,1,none⟩ (.bool c)) (some pb):=by
 obtain ⟨h1,h2⟩:=pF h.1 1 (.bool c);exact ⟨⟨h1,h.2.kept h2 (Own.iD h.2 h.1 (by decide))⟩,h2⟩
end Wh
namespace Wh
open Go Go.RowKit Go.Shelf Go.Proofs Tryz
attribute [local go_sem] au dQ dI dX
section
variable {ops:Array Oper} {rest:List Oper} {o:Oper} {a:Act} {w:World} {Q:Exit→Act→World→Prop} {base pb:Nat} {v:Value} {bad:Bool} {bs:List Nat}
theorem IW (hgd:o.guard=none) (x y:Operand) (ho:o.op=.store 4 x y) (hn:o.dst=none) {c:Bool} (hP:yE w base pb v bad bs) (hx:a.eval x=.pointer (some ⟨pb,1,none⟩)) (hy:a.eval y=.bool c)
  (h:∀ w',yE w' base pb v c bs→w.grownBy w' (some pb)→wpList prog ops Q rest a w'):wpList prog ops Q (o::rest) a w:=
 lV hgd fun K hK=>by
  obtain ⟨h1,h2⟩:=hP.mark c;have h3:=h _ h1 h2;have hc:=hP.1.cell (j:=1) rfl;have hf:=hP.1.frozen 1;clear h hP h1 h2;unfold Oper.wp;simp only [execOp,ho,hx,hy];go_simp
  exact hK _ _ h3
theorem IV (hgd:o.guard=none) (x y:Operand) (ho:o.op=.store 115 x y) (hn:o.dst=none) {w0:World} {A:Option Addr} {n c:Nat} {bs':List Nat} (hP:yE w0 base pb v bad bs) (hg:w0.grownBy w v.ownBlock) (hO:Own JO 1 5 w base (.slice A n c) bs')
  (hx:a.eval x=.pointer (some ⟨pb,0,none⟩)) (hy:a.eval y=.slice A n c)
  (h:∀ w',yE w' base pb (.slice A n c) bad bs'→w.grownBy w' (some pb)→wpList prog ops Q rest a w'):wpList prog ops Q (o::rest) a w:=
 lV hgd fun K hK=>by
  obtain ⟨h1,h2⟩:=hP.push hg hO;have h3:=h _ h1 h2;have hb:dw w pb 117 [v,.bool bad]:=hP.1.grown hg (by
   rcases Own.iD hP.2 hP.1 (by decide) with hn|hn
   ·rw [hn];intro he;cases he
   ·exact fun he=>hn he.symm)
  have hc:=hb.cell (j:=0) rfl;have hf:=hb.frozen 0;clear h hP h1 h2 hg hO hb;unfold Oper.wp;simp only [execOp,ho,hx,hy];go_simp
  exact hK _ _ h3
end
theorem OZ {l:List Int} {k:Nat} (h:k<l.length) (bad:Bool):(bad||!((l.take (k+1)).all isByte))=((bad||!((l.take k).all isByte))||!isByte l[k]):=by
 rw [take_snoc h,PW];cases bad<;>cases (l.take k).all isByte<;>cases h2:isByte l[k]<;>simp [h2]
theorem Md {n:Int}:isByte n=false↔n<0∨255<n:=by
 rw [Bool.eq_false_iff,Ne,Fv];omega
theorem jjf (w:World) {base pb lb:Nat} {v:Value} {bad:Bool} {bs:List Nat} {l:List Int} (hP:yE w base pb v bad bs) (hbase:base≤w.heap.size) (hl:dw w lb 3 (l.map (Value.int .i64))) (hn:l.length≤8) (hbn:bs.length≤70368744177664):
  Calls prog 84 #[.pointer (some ⟨pb,0,none⟩),.slice (some ⟨lb,0,none⟩) l.length l.length] w fun e w'=>e=.returned (.tuple #[])∧∃ v',yE w' base pb v' (bad||!(l.all isByte)) (bs++l.map byteOf)∧
   (∀ k,v'.ownBlock=some k→v.ownBlock=some k∨w.heap.size≤k)∧Step (fun j=>j=pb∨v.ownBlock=some j) w w':=by
 have hP':=Lib.hid hP;have hl':=Lib.hid hl;have hll:=hl.lt;clear hP hl;go_enter func84,ntmps84
 go_wp2_with fail;go_loopw [8,5] (fun i _ wr=>∃ (k:Nat) (v':Value),k≤l.length∧i=.int .i64 k∧yE wr base pb v' (bad||!((l.take k).all isByte)) (bs++(l.take k).map byteOf)∧(∀ q,v'.ownBlock=some q→v.ownBlock=some q∨w.heap.size≤q)∧Step (fun j=>j=pb∨v.ownBlock=some j) w wr) (fun i _ _=>l.length - (RowKit.intOf i).toNat)
 case atStart=>exact ⟨0,v,aT _,rfl,by simpa using hP'.out,fun q hq=>.inl hq,Step.refl _ _⟩
 case round=>
  obtain ⟨k,v',hk,rfl,hP,hvb,hst⟩:=hrel;have Nr:=Lib.hid hvb;have hst':=Lib.hid hst;clear hvb hst;have jnG:=hst'.out.size;by_cases hlt:k<l.length
  ·have hki:(k:Int)<(l.length:Int):=by omega
   have jlc:=hst'.out.blk hl'.out (fun hh=>by
    rcases hh with rfl|hh
    ·exact (hl'.out.ne hP'.out.1 (by decide)) rfl
    ·rcases Own.iD hP'.out.2 hl'.out (by decide) with h|h
     ·rw [h] at hh;cases hh
     ·exact h hh)
   obtain ⟨x,hx⟩:∃ x,l[k]=x:=⟨_,rfl⟩;have hcx:wr.cell? ⟨lb,k,none⟩=some (.int .i64 x):=jlc.cell (j:=k) (by rw [qc,fF hlt,hx];rfl)
   have hx':=Lib.hid hx;have hwx:=Oy x;obtain ⟨bo,hbo⟩:∃ bo,(bad||!((l.take k).all isByte))=bo:=⟨_,rfl⟩
   obtain ⟨Z8,WL⟩:∃ Z8,bs++(l.take k).map byteOf=Z8:=⟨_,rfl⟩;rw [hbo,WL] at hP
   have hlen:Z8.length+1≤140737488355328:=by
    rw [← WL,dK,kF,dS];omega
   have hPr:=Lib.hid hP;have c0:=hP.1.cell (j:=0) rfl;have c1:=hP.1.cell (j:=1) rfl;have lpb:=hP.1.lt;have llb:=jlc.lt;have jiw:=Lib.hid hbo;have hbs':=Lib.hid WL;clear hP jlc hbo WL hx;cases bo
   ·by_cases h1:x<0
    ·have t1:=lg h1;have hY:isByte l[k]=false:=by rw [hx'.out];exact Md.2 (.inl h1)
     clear h1;have hR:(bad||!((l.take (k+1)).all isByte))=true:=by rw [OZ hlt,jiw.out];simp [hY]
     have hR':=Lib.hid hR;clear hR hY;go_wp2_with (refine IW rfl (.tmp 26) (.tmp 24) rfl rfl (c:=true) hPr.out rfl rfl (fun w2 hP2 hg2=>?_);refine aU ?_)
     unfold Hid;have Kz:=Lib.hid hP2;have c0:=hP2.1.cell (j:=0) rfl;have lp2:=hP2.1.lt;have hsz2:=hg2.size;have hst2:=Lib.hid (hst'.out.trans (Step.dG (ks:=fun j=>j=pb∨v.ownBlock=some j) hg2 (fun q hq=>.inl (by injection hq with hq;exact hq.symm))))
     clear hP2 hg2 c1 hcx lpb;go_wp2_with (refine zV _ rfl (.tmp 31) (.tmp 34) 115 5 rfl base _ 1 1 underlying115 infoByte rfl (by decide) v' Z8 (byteOf x) rfl (Kz.out.2.alloc _) ⟨w2.heap.size,0,none⟩ 1 rfl rfl (kT _ _ _) (one_byte _) (by rw [rJ];exact hlen) hlen (by rw [fP];omega) (fun v9 w9 zD dh JG Ci=>?_);refine aU ?_)
     unfold Hid;obtain ⟨A9,c9,rfl⟩:=zD.isSlice;have FH:=Lib.hid zD;have H6:=Lib.hid dh;have hPa:=Lib.hid (Kz.out.alloc (.cells #[.int .u8 (byteOf x)] 5));clear zD dh c0;go_wp2_with (refine IV rfl (.tmp 37) (.tmp 35) rfl rfl hPa.out H6.out FH.out rfl rfl (fun w10 Ry vC=>?_);refine aU ?_)
     unfold Hid;have Rx:=Lib.hid (show yE w10 base pb _ (bad||!((l.take (k+1)).all isByte)) (bs++(l.take (k+1)).map byteOf) by rw [hR'.out,take_snoc hlt,jl,← jo,hbs'.out,dP,nH,hx'.out];exact Ry)
     have nJ:=Lib.hid (((hst2.out.trans (Step.of_below ((aj _ _).alloc (aA _) (.cells #[.int .u8 (byteOf x)] 5)))).trans' (Step.dG (ks:=fun q=>v'.ownBlock=some q) H6.out (fun q hq=>hq)) (fun q hq h=>.inr ((Nr.out q h).resolve_right (by omega)))).trans (Step.dG (ks:=fun j=>j=pb∨v.ownBlock=some j) vC (fun q hq=>.inl (by injection hq with hq;exact hq.symm))))
     have jbi:=Lib.hid (show ∀ q,(Value.slice A9 (Z8++[byteOf x]).length c9).ownBlock=some q→v.ownBlock=some q∨w.heap.size≤q from fun q hq=>by
      rcases JG with h|h
      ·exact Nr.out q (by rw [← h];exact hq)
      ·rw [h,fP] at hq
       injection hq with hq
       have:=hst2.out.size;exact .inr (by omega))
     clear Ry vC JG Ci FH H6 hPa Kz hst2 hPr Nr hst';go_wp2_with fail;go_roundw
     case rel=>exact ⟨k+1,_,by omega,by go_num,Rx.out,jbi.out,nJ.out⟩
     case measure=>simp [RowKit.intOf];omega
    ·have t1:=iU h1;by_cases h2:255<x
     ·have t2:=lg h2;have hY:isByte l[k]=false:=by rw [hx'.out];exact Md.2 (.inr h2)
      clear h1 h2;have hR:(bad||!((l.take (k+1)).all isByte))=true:=by rw [OZ hlt,jiw.out];simp [hY]
      have hR':=Lib.hid hR;clear hR hY;go_wp2_with (refine IW rfl (.tmp 26) (.tmp 24) rfl rfl (c:=true) hPr.out rfl rfl (fun w2 hP2 hg2=>?_);refine aU ?_)
      unfold Hid;have Kz:=Lib.hid hP2;have c0:=hP2.1.cell (j:=0) rfl;have lp2:=hP2.1.lt;have hsz2:=hg2.size;have hst2:=Lib.hid (hst'.out.trans (Step.dG (ks:=fun j=>j=pb∨v.ownBlock=some j) hg2 (fun q hq=>.inl (by injection hq with hq;exact hq.symm))))
      clear hP2 hg2 c1 hcx lpb;go_wp2_with (refine zV _ rfl (.tmp 31) (.tmp 34) 115 5 rfl base _ 1 1 underlying115 infoByte rfl (by decide) v' Z8 (byteOf x) rfl (Kz.out.2.alloc _) ⟨w2.heap.size,0,none⟩ 1 rfl rfl (kT _ _ _) (one_byte _) (by rw [rJ];exact hlen) hlen (by rw [fP];omega) (fun v9 w9 zD dh JG Ci=>?_);refine aU ?_)
      unfold Hid;obtain ⟨A9,c9,rfl⟩:=zD.isSlice;have FH:=Lib.hid zD;have H6:=Lib.hid dh;have hPa:=Lib.hid (Kz.out.alloc (.cells #[.int .u8 (byteOf x)] 5));clear zD dh c0;go_wp2_with (refine IV rfl (.tmp 37) (.tmp 35) rfl rfl hPa.out H6.out FH.out rfl rfl (fun w10 Ry vC=>?_);refine aU ?_)
      unfold Hid;have Rx:=Lib.hid (show yE w10 base pb _ (bad||!((l.take (k+1)).all isByte)) (bs++(l.take (k+1)).map byteOf) by rw [hR'.out,take_snoc hlt,jl,← jo,hbs'.out,dP,nH,hx'.out];exact Ry)
      have nJ:=Lib.hid (((hst2.out.trans (Step.of_below ((aj _ _).alloc (aA _) (.cells #[.int .u8 (byteOf x)] 5)))).trans' (Step.dG (ks:=fun q=>v'.ownBlock=some q) H6.out (fun q hq=>hq)) (fun q hq h=>.inr ((Nr.out q h).resolve_right (by omega)))).trans (Step.dG (ks:=fun j=>j=pb∨v.ownBlock=some j) vC (fun q hq=>.inl (by injection hq with hq;exact hq.symm))))
      have jbi:=Lib.hid (show ∀ q,(Value.slice A9 (Z8++[byteOf x]).length c9).ownBlock=some q→v.ownBlock=some q∨w.heap.size≤q from fun q hq=>by
       rcases JG with h|h
       ·exact Nr.out q (by rw [← h];exact hq)
       ·rw [h,fP] at hq
        injection hq with hq
        have:=hst2.out.size;exact .inr (by omega))
      clear Ry vC JG Ci FH H6 hPa Kz hst2 hPr Nr hst';go_wp2_with fail;go_roundw
      case rel=>exact ⟨k+1,_,by omega,by go_num,Rx.out,jbi.out,nJ.out⟩
      case measure=>simp [RowKit.intOf];omega
     ·have t2:=iU h2;have hY:isByte l[k]=true:=by rw [hx'.out];exact Fv.2 (by omega)
      clear h1 h2;have hR:(bad||!((l.take (k+1)).all isByte))=false:=by rw [OZ hlt,jiw.out];simp [hY]
      have hR':=Lib.hid hR;clear hR hY;go_wp2_with (refine IW rfl (.tmp 26) (.tmp 24) rfl rfl (c:=false) hPr.out rfl rfl (fun w2 hP2 hg2=>?_);refine aU ?_)
      unfold Hid;have Kz:=Lib.hid hP2;have c0:=hP2.1.cell (j:=0) rfl;have lp2:=hP2.1.lt;have hsz2:=hg2.size;have hst2:=Lib.hid (hst'.out.trans (Step.dG (ks:=fun j=>j=pb∨v.ownBlock=some j) hg2 (fun q hq=>.inl (by injection hq with hq;exact hq.symm))))
      clear hP2 hg2 c1 hcx lpb;go_wp2_with (refine zV _ rfl (.tmp 31) (.tmp 34) 115 5 rfl base _ 1 1 underlying115 infoByte rfl (by decide) v' Z8 (byteOf x) rfl (Kz.out.2.alloc _) ⟨w2.heap.size,0,none⟩ 1 rfl rfl (kT _ _ _) (one_byte _) (by rw [rJ];exact hlen) hlen (by rw [fP];omega) (fun v9 w9 zD dh JG Ci=>?_);refine aU ?_)
      unfold Hid;obtain ⟨A9,c9,rfl⟩:=zD.isSlice;have FH:=Lib.hid zD;have H6:=Lib.hid dh;have hPa:=Lib.hid (Kz.out.alloc (.cells #[.int .u8 (byteOf x)] 5));clear zD dh c0;go_wp2_with (refine IV rfl (.tmp 37) (.tmp 35) rfl rfl hPa.out H6.out FH.out rfl rfl (fun w10 Ry vC=>?_);refine aU ?_)
      unfold Hid;have Rx:=Lib.hid (show yE w10 base pb _ (bad||!((l.take (k+1)).all isByte)) (bs++(l.take (k+1)).map byteOf) by rw [hR'.out,take_snoc hlt,jl,← jo,hbs'.out,dP,nH,hx'.out];exact Ry)
      have nJ:=Lib.hid (((hst2.out.trans (Step.of_below ((aj _ _).alloc (aA _) (.cells #[.int .u8 (byteOf x)] 5)))).trans' (Step.dG (ks:=fun q=>v'.ownBlock=some q) H6.out (fun q hq=>hq)) (fun q hq h=>.inr ((Nr.out q h).resolve_right (by omega)))).trans (Step.dG (ks:=fun j=>j=pb∨v.ownBlock=some j) vC (fun q hq=>.inl (by injection hq with hq;exact hq.symm))))
      have jbi:=Lib.hid (show ∀ q,(Value.slice A9 (Z8++[byteOf x]).length c9).ownBlock=some q→v.ownBlock=some q∨w.heap.size≤q from fun q hq=>by
       rcases JG with h|h
       ·exact Nr.out q (by rw [← h];exact hq)
       ·rw [h,fP] at hq
        injection hq with hq
        have:=hst2.out.size;exact .inr (by omega))
      clear Ry vC JG Ci FH H6 hPa Kz hst2 hPr Nr hst';go_wp2_with fail;go_roundw
      case rel=>exact ⟨k+1,_,by omega,by go_num,Rx.out,jbi.out,nJ.out⟩
      case measure=>simp [RowKit.intOf];omega
   ·have hY:True:=bP;have hR:(bad||!((l.take (k+1)).all isByte))=true:=by rw [OZ hlt,jiw.out];simp [Bool.true_or]
    have hR':=Lib.hid hR;clear hR hY;go_wp2_with (refine IW rfl (.tmp 26) (.tmp 24) rfl rfl (c:=true) hPr.out rfl rfl (fun w2 hP2 hg2=>?_);refine aU ?_)
    unfold Hid;have Kz:=Lib.hid hP2;have c0:=hP2.1.cell (j:=0) rfl;have lp2:=hP2.1.lt;have hsz2:=hg2.size;have hst2:=Lib.hid (hst'.out.trans (Step.dG (ks:=fun j=>j=pb∨v.ownBlock=some j) hg2 (fun q hq=>.inl (by injection hq with hq;exact hq.symm))))
    clear hP2 hg2 c1 hcx lpb;go_wp2_with (refine zV _ rfl (.tmp 31) (.tmp 34) 115 5 rfl base _ 1 1 underlying115 infoByte rfl (by decide) v' Z8 (byteOf x) rfl (Kz.out.2.alloc _) ⟨w2.heap.size,0,none⟩ 1 rfl rfl (kT _ _ _) (one_byte _) (by rw [rJ];exact hlen) hlen (by rw [fP];omega) (fun v9 w9 zD dh JG Ci=>?_);refine aU ?_)
    unfold Hid;obtain ⟨A9,c9,rfl⟩:=zD.isSlice;have FH:=Lib.hid zD;have H6:=Lib.hid dh;have hPa:=Lib.hid (Kz.out.alloc (.cells #[.int .u8 (byteOf x)] 5));clear zD dh c0;go_wp2_with (refine IV rfl (.tmp 37) (.tmp 35) rfl rfl hPa.out H6.out FH.out rfl rfl (fun w10 Ry vC=>?_);refine aU ?_)
    unfold Hid;have Rx:=Lib.hid (show yE w10 base pb _ (bad||!((l.take (k+1)).all isByte)) (bs++(l.take (k+1)).map byteOf) by rw [hR'.out,take_snoc hlt,jl,← jo,hbs'.out,dP,nH,hx'.out];exact Ry)
    have nJ:=Lib.hid (((hst2.out.trans (Step.of_below ((aj _ _).alloc (aA _) (.cells #[.int .u8 (byteOf x)] 5)))).trans' (Step.dG (ks:=fun q=>v'.ownBlock=some q) H6.out (fun q hq=>hq)) (fun q hq h=>.inr ((Nr.out q h).resolve_right (by omega)))).trans (Step.dG (ks:=fun j=>j=pb∨v.ownBlock=some j) vC (fun q hq=>.inl (by injection hq with hq;exact hq.symm))))
    have jbi:=Lib.hid (show ∀ q,(Value.slice A9 (Z8++[byteOf x]).length c9).ownBlock=some q→v.ownBlock=some q∨w.heap.size≤q from fun q hq=>by
     rcases JG with h|h
     ·exact Nr.out q (by rw [← h];exact hq)
     ·rw [h,fP] at hq
      injection hq with hq
      have:=hst2.out.size;exact .inr (by omega))
    clear Ry vC JG Ci FH H6 hPa Kz hst2 hPr Nr hst';go_wp2_with fail;go_roundw
    case rel=>exact ⟨k+1,_,by omega,by go_num,Rx.out,jbi.out,nJ.out⟩
    case measure=>simp [RowKit.intOf];omega
  ·obtain rfl:k=l.length:=by omega
   rw [jE] at hP
   have hPr:=Lib.hid hP;clear hP;go_wp2_with fail;go_end0
   exact ⟨rfl,v',hPr.out,Nr.out,hst'.out⟩
end Wh
namespace Wh
open Go Go.RowKit Go.Shelf Go.Proofs Tryz
attribute [local go_sem] au dQ dI dX
def kR (l:List Nat):ByteArray:=⟨(l.map UInt8.ofNat).toArray⟩
theorem Vj (n:Int):byteOf n<256:=by
 unfold byteOf;rw [PX];omega
def Dp (x:Line):List Nat:=[byteOf x.good,byteOf x.want,byteOf x.got,byteOf x.back]
theorem ja7 {x:Line} (h:BZ x=true):Dp x=Jf x:=by
 unfold BZ at h
 simp only [dL] at h
 unfold Dp Jf;rw [rF h.1.1.1,rF h.1.1.2,rF h.1.2,rF h.2]
theorem YO {l:List Line} (h:l.all BZ=true):l.flatMap Dp=l.flatMap Jf:=by
 induction l with
 |nil=>rfl
 |cons y r ih=>
  rw [LD,dL] at h
  rw [uG,uG,ja7 h.1,ih h.2]
theorem YQ (l:List Line):(l.flatMap Dp).length=4*l.length:=by
 induction l with
 |nil=>rfl
 |cons y r ih=>rw [uG,dK,ih,gQ];simp [Dp];omega
theorem ja6 (l:List Line):∀ n∈l.flatMap Dp,n<256:=fun n hn=>by
 obtain ⟨y,_,hy⟩:=Bj.1 hn;simp only [Dp,nY,Bh,o9] at hy
 rcases hy with rfl|rfl|rfl|rfl<;>exact Vj _
def wrote (x:qo) (k:Nat):List Nat:=[byteOf x.kind,byteOf x.a,byteOf x.b,byteOf x.c,byteOf x.n,byteOf x.lines.length]++(x.lines.take k).flatMap Dp
def Tq (x:qo) (k:Nat):Bool:=!([x.kind,x.a,x.b,x.c,x.n].all isByte)||!((x.lines.take k).all BZ)
theorem jc6 (x:qo) (k:Nat):(wrote x k).length≤6+4*k:=by
 unfold wrote;rw [dK,YQ,dS];simp only [gQ,je];omega
theorem jel (x:qo) (k:Nat):∀ n∈wrote x k,n<256:=fun n hn=>by
 rcases qQ.1 hn with h|h
 ·simp only [nY,Bh,o9] at h
  rcases h with rfl|rfl|rfl|rfl|rfl|rfl<;>exact Vj _
 ·exact ja6 _ n h
theorem jax {x:qo} {k:Nat} (h:k<x.lines.length):wrote x (k+1)=wrote x k++[(bH x.lines k).good,(bH x.lines k).want,(bH x.lines k).got,(bH x.lines k).back].map byteOf:=by
 have e:bH x.lines k=x.lines[k]:=by simp [bH,h]
 unfold wrote;rw [e,jo];congr 1
 rw [List.take_add_one,fF h,lD]
 rfl
theorem jc8 {x:qo} {k:Nat} (h:k<x.lines.length):Tq x (k+1)=(Tq x k||!([(bH x.lines k).good,(bH x.lines k).want,(bH x.lines k).got,(bH x.lines k).back].all isByte)):=by
 have e:bH x.lines k=x.lines[k]:=by simp [bH,h]
 unfold Tq;rw [e,List.take_add_one,fF h,PW,P7]
 have e2:((some x.lines[k]).toList.all BZ)=([x.lines[k].good,x.lines[k].want,x.lines[k].got,x.lines[k].back].all isByte):=by
  simp only [Option.toList_some,LD,PU,Bool.and_true,BZ,Bool.and_assoc]
 rw [e2,Bool.or_assoc]
theorem jen (x:qo):Tq x x.lines.length= !FX x:=by
 unfold Tq FX;rw [jE];simp only [LD,PU,Bool.and_true,P7,Bool.or_assoc]
theorem jc7 {x:qo} (h:FX x=true) (hn:x.lines.length≤3):wrote x x.lines.length=IQ x:=by
 have h':=h;unfold FX at h'
 simp only [dL] at h'
 obtain ⟨⟨⟨⟨⟨h1,h2⟩,h3⟩,h4⟩,h5⟩,h6⟩:=h';unfold wrote IQ;have hl:isByte (x.lines.length:Int)=true:=Fv.2 (by omega)
 rw [jE,YO h6,rF h1,rF h2,rF h3,rF h4,rF h5,rF hl];rfl
theorem jb3 {w:World} {base:Nat} {A:Option Addr} {n c:Nat} {bs:List Nat} (h:Own JO 1 5 w base (.slice A n c) bs) (hlt:∀ x∈bs,x<256) (hpos:0<bs.length):
  (convert 115 9 (.slice A n c)).run prog w=.ok (.string (kR bs)) w:=by
 obtain ⟨g,c',hv,_,_⟩:=h.some_ hpos;injection hv with e1 e2 e3
 subst e1 e2 e3;have hc:=fun j (hj:j<bs.length)=>h.at (fun _=>rfl) (i:=j) hj
 have key:=run_convert_bytes_back (P:=prog) w 115 9 5 ⟨g,0,none⟩ c (bs.map UInt8.ofNat) underlying115 (by kernel_rfl) (by kernel_rfl) (fun j hj=>by
  have hj':j<bs.length:=by simpa using hj
  obtain ⟨g',c2,cur,e1,_,_,h4⟩:=hc j hj';injection e1 with e1
  injection e1 with e1
  injection e1 with e1
  subst e1;have h5:=h4 0 _ rfl;rw [jq];have e:((bs.map UInt8.ofNat)[j].toNat:Int)=(bs[j]:Int):=by
   rw [PL];have:=hlt _ (eF hj');simp
   omega
  rw [e];simpa using h5)
 rw [kF] at key
 exact key
theorem VG (w:World) (base:Nat) (v:Value) (l:List Nat) (n:Nat) (hown:Own JO 1 5 w base v l) (g c:Nat) (hc:w.cell? ⟨g,0,none⟩=some (.int .u8 n)) (hn:l.length≤1000) (hbase:base≤w.heap.size):
  ∃ v' w',(Builtin.append_ #[115,115] 115 #[v,.slice (some ⟨g,0,none⟩) 1 c]).run prog w=.ok v' w'∧Own JO 1 5 w' base v' (l++[n])∧w.grownBy w' v.ownBlock∧Below base w w':=by
 obtain ⟨ii,hi,hz,hsize,hbytes⟩:=infoByte;obtain ⟨v',w3,hr,hown3,hg3,_,_⟩:=run_append_own_at (P:=prog) w base 115 115 5 ii _ 1 1 underlying115 hi hz hsize hbytes rfl (by decide) v _ _ hown ⟨g,0,none⟩ 1 c (JO n) rfl
  (fun j u hj=>by
   rw [jq];match j,hj with
   |0,hj=>exact hc.trans hj
   |j+1,hj=>simp [JO] at hj) (one_byte n) (by unfold maxLen;omega) (by omega) hbase
 refine ⟨v',w3,hr,?_,hg3,(aj _ _).grown hg3 hbase fun k hk=>(yO hown k hk).1⟩
 unfold Own;rw [dK,lD];simpa using hown3
theorem jca (w:World) (x:qo) (Al:Option Addr) (cl:Nat):∃ W:World,((w.alloc (.cells #[.int .i64 x.kind,.int .i64 x.a,.int .i64 x.b,.int .i64 x.c,.int .i64 x.n,.slice Al x.lines.length cl] 34)).alloc (.cells #[.slice none 0 0,.bool false] 117)).alloc (.cells #[.int .i64 x.kind,.int .i64 x.a,.int .i64 x.b,.int .i64 x.c,.int .i64 x.n] 3)=W∧
  Below w.heap.size w W∧yE W w.heap.size (w.heap.size+1) (.slice none 0 0) false []∧dw W w.heap.size 34 [.int .i64 x.kind,.int .i64 x.a,.int .i64 x.b,.int .i64 x.c,.int .i64 x.n,.slice Al x.lines.length cl]∧dw W (w.heap.size+1+1) 3 ([x.kind,x.a,x.b,x.c,x.n].map (Value.int .i64)):=by
 have h1:dw (w.alloc (.cells #[.int .i64 x.kind,.int .i64 x.a,.int .i64 x.b,.int .i64 x.c,.int .i64 x.n,.slice Al x.lines.length cl] 34)) w.heap.size 34 [.int .i64 x.kind,.int .i64 x.a,.int .i64 x.b,.int .i64 x.c,.int .i64 x.n,.slice Al x.lines.length cl]:=dw.new _ _ _;have h2:=dw.new (w.alloc (.cells #[.int .i64 x.kind,.int .i64 x.a,.int .i64 x.b,.int .i64 x.c,.int .i64 x.n,.slice Al x.lines.length cl] 34)) 117 #[.slice none 0 0,.bool false];rw [fP] at h2
 have h3:=dw.new ((w.alloc (.cells #[.int .i64 x.kind,.int .i64 x.a,.int .i64 x.b,.int .i64 x.c,.int .i64 x.n,.slice Al x.lines.length cl] 34)).alloc (.cells #[.slice none 0 0,.bool false] 117)) 3 #[.int .i64 x.kind,.int .i64 x.a,.int .i64 x.b,.int .i64 x.c,.int .i64 x.n];rw [fP,fP] at h3
 exact ⟨_,rfl,(((aj _ _).alloc (aA _) _).alloc (by simp) _).alloc (by simp;omega) _,⟨h2.alloc _,Own.nil⟩,(h1.alloc _).alloc _,h3⟩
theorem Wn (w:World) (v:Value) (x:qo) (hv:OC w w.heap.size v x) (hlb:x.lines.length≤4398046511104):
  Calls prog 28 #[v] w fun e w'=>e=.returned (.tuple #[.string (kR (BD x).1),.int .i64 (BD x).2])∧Below w.heap.size w w':=by
 obtain ⟨Al,cl,rfl,hX,hL,hll⟩:=LW hv;clear hv hX;go_enter func28,ntmps28
 go_wp2_with fail;obtain ⟨W,hW,hbw,hP0,hbx0,hbi⟩:=jca w x Al cl;rw [hW];clear hW;refine (jjf W (l:=[x.kind,x.a,x.b,x.c,x.n]) hP0 hbw.size hbi (by simp) (by simp)).mono ?_
 rintro e W1 ⟨rfl,v1,hP1,_,hst1⟩;have hks:∀ q,(q=w.heap.size+1∨(Value.slice none 0 0).ownBlock=some q)→q=w.heap.size+1:=fun q hq=>by
  rcases hq with h|h
  ·exact h
  ·cases h
 have hB1:=hbw.trans (hst1.below (B:=w.heap.size) (fun q hq=>by have:=hks q hq;omega) hbw.size)
 have Ku:=Lib.hid (hst1.blk hbx0 (fun hh=>by have:=hks _ hh;omega))
 rw [lq,Bool.false_or] at hP1
 obtain ⟨Z8,WL⟩:∃ Z8,[x.kind,x.a,x.b,x.c,x.n].map byteOf=Z8:=⟨_,rfl⟩;obtain ⟨bd1,hbd1⟩:∃ bd1,(!([x.kind,x.a,x.b,x.c,x.n].all isByte))=bd1:=⟨_,rfl⟩;rw [WL,hbd1] at hP1
 have jjF:=Lib.hid WL;have jjH:=Lib.hid hbd1;have hbl:Z8.length=5:=by rw [← WL];rfl
 clear WL hbd1;have c0:=hP1.1.cell (j:=0) rfl;have x5:=Ku.out.cell (j:=5) rfl;have lx:=Ku.out.lt;have lp:=hP1.1.lt;have hwn:=Oy (x.lines.length:Int);obtain ⟨nb,hnb⟩:∃ nb,byteOf (x.lines.length:Int)=nb:=⟨_,rfl⟩;rw [hnb] at hwn
 have hnb':=Lib.hid hnb;have hba:Below W1.heap.size W1 (W1.alloc (.cells #[.int .u8 nb] 5)).drew:=((aj _ _).alloc (aA _) _).drew;have hca:(W1.alloc (.cells #[.int .u8 nb] 5)).drew.cell? ⟨W1.heap.size,0,none⟩=some (.int .u8 nb):=(dw.new W1 5 #[.int .u8 nb]).drew.cell (j:=0) rfl;obtain ⟨v2,w2,hr1,hown2,hg2,hb2⟩:=VG _ w.heap.size v1 _ nb (hP1.2.below hba) W1.heap.size 1 hca (by omega) (bJ hB1.size hba.size)
 obtain ⟨A2,c2,hv2⟩:=hown2.isSlice;obtain ⟨n2,hn2⟩:∃ n2,(Z8++[nb]).length=n2:=⟨_,rfl⟩;rw [hn2] at hv2
 subst hv2;have hPa:=hP1.below hba;have jiu:dw w2 (w.heap.size+1) 117 [v1,.bool _]:=hPa.1.grown hg2 (by
  rcases Own.iD hPa.2 hPa.1 (by decide) with hn|hn
  ·rw [hn];intro he;cases he
  ·exact fun he=>hn he.symm)
 have hbx2:=Ku.out.below hba lx;have jit:=Lib.hid (show dw w2 w.heap.size 34 _ from hbx2.grown hg2 (by
  rcases Own.iD hPa.2 hbx2 (by decide) with hn|hn
  ·rw [hn];intro he;cases he
  ·exact fun he=>hn he.symm))
 obtain ⟨hP3,hg3⟩:=hPa.push hg2 hown2;have jgC:=Lib.hid hP3;have hg3':=Lib.hid hg3;have b3:=jiu.cell (j:=0) rfl;have f3:=jiu.frozen 0;have lp2:=jiu.lt;have hB2:=Lib.hid ((hB1.trans (hba.mono hB1.size)).trans hb2);have hr1':=Lib.hid hr1;clear hP1 hst1 hks hbw hP0 hbx0 hbi hr1 hown2 hg2 hb2 hPa jiu hbx2 hP3 hg3 hca hba hnb hn2 hbl;go_wp2_with fail;go_region_law (refine jv _ rfl (.tmp 26) (.tmp 31) 115 115 rfl v1 (.slice (some ⟨W1.heap.size,0,none⟩) 1 1) (by simp [Act.eval]) (by simp [Act.eval]) hr1'.out ?_)
 all_goals
  clear b3 f3 c0 x5 hwn hr1' lp2;have hB3:=hB2.out.grown hg3'.out hB2.out.size (fun q hq=>by injection hq with hq;omega)
  have Zh:=Lib.hid (jit.out.grown hg3'.out (by intro he;injection he with he;omega))
  clear hB1 Ku lx lp hB2 hg3' jit;generalize w2.setCell ⟨w.heap.size+1,0,none⟩ (.slice A2 n2 c2)=w4 at jgC hB3 Zh ⊢
  have hP4:=Lib.hid (show yE w4 w.heap.size (w.heap.size+1) (.slice A2 n2 c2) (Tq x 0) (wrote x 0) by
   have e1:Tq x 0=bd1:=by
    rw [← jjH.out];unfold Tq;rw [eG,PU,GR,Bool.or_false]
   have e2:wrote x 0=Z8++[nb]:=by
    rw [← jjF.out,← hnb'.out];unfold wrote;rw [eG,List.flatMap_nil,mJ];rfl
   rw [e1,e2];exact jgC.out)
  clear jgC jjF jjH hnb';have x5:=Zh.out.cell (j:=5) rfl;have lx:=Zh.out.lt;go_wp2_with fail;clear x5 lx;go_loopw [38,6] (fun i _ wr=>∃ (k:Nat) (v':Value),k≤x.lines.length∧i=.int .i64 k∧yE wr w.heap.size (w.heap.size+1) v' (Tq x k) (wrote x k)∧dw wr w.heap.size 34 [.int .i64 x.kind,.int .i64 x.a,.int .i64 x.b,.int .i64 x.c,.int .i64 x.n,.slice Al x.lines.length cl]∧Below w.heap.size w wr) (fun i _ _=>x.lines.length - (RowKit.intOf i).toNat)
  case atStart=>exact ⟨0,_,aT _,rfl,hP4.out,Zh.out,hB3⟩
  case round=>
   clear hP4 Zh hB3;obtain ⟨k,v',hk,rfl,hP,hbx,hBr⟩:=hrel;have hP':=Lib.hid hP;have xg:=Lib.hid hbx;clear hP hbx;by_cases hlt:k<x.lines.length
   ·have hki:(k:Int)<(x.lines.length:Int):=by omega
    obtain ⟨okl,ll,f0,f1,f2,f3⟩:=(hL.out wr hBr).at_.line hlt;have hws:=Lib.hid (jax hlt);have hwb:=Lib.hid (jc8 hlt);obtain ⟨y,hy⟩:∃ y,bH x.lines k=y:=⟨_,rfl⟩;rw [hy] at f0 f1 f2 f3 hws hwb
    clear hy;go_wp2_with fail;clear f0 f1 f2 f3 okl ll;have hb2:Below wr.heap.size wr ((wr.alloc (.cells #[.int .i64 y.good,.int .i64 y.want,.int .i64 y.got,.int .i64 y.back] 44)).alloc (.cells #[.int .i64 y.good,.int .i64 y.want,.int .i64 y.got,.int .i64 y.back] 3)):=((aj _ _).alloc (aA _) _).alloc (by simp) _
    have hbi:dw ((wr.alloc (.cells #[.int .i64 y.good,.int .i64 y.want,.int .i64 y.got,.int .i64 y.back] 44)).alloc (.cells #[.int .i64 y.good,.int .i64 y.want,.int .i64 y.got,.int .i64 y.back] 3)) (wr.heap.size+1) 3 ([y.good,y.want,y.got,y.back].map (Value.int .i64)):=by
     have h:=dw.new (wr.alloc (.cells #[.int .i64 y.good,.int .i64 y.want,.int .i64 y.got,.int .i64 y.back] 44)) 3 #[.int .i64 y.good,.int .i64 y.want,.int .i64 y.got,.int .i64 y.back];rw [fP] at h
     exact h
    generalize (wr.alloc (.cells #[.int .i64 y.good,.int .i64 y.want,.int .i64 y.got,.int .i64 y.back] 44)).alloc (.cells #[.int .i64 y.good,.int .i64 y.want,.int .i64 y.got,.int .i64 y.back] 3)=W2 at hb2 hbi ⊢
    have hwl:=jc6 x k;refine (jjf W2 (l:=[y.good,y.want,y.got,y.back]) (hP'.out.below hb2) (bJ hBr.size hb2.size) hbi (by simp) (by omega)).mono ?_
    rintro e W3 ⟨rfl,v3,hP3,_,hst3⟩;have hks:∀ q,(q=w.heap.size+1∨v'.ownBlock=some q)→w.heap.size≤q∧q≠w.heap.size:=fun q hq=>by
     rcases hq with rfl|hq
     ·omega
     ·refine ⟨(hP'.out.2.size q hq).1,fun he=>?_⟩
      rcases Own.iD hP'.out.2 xg.out (by decide) with h|h
      ·rw [h] at hq;cases hq
      ·exact h (by rw [hq,he])
    have hB3:=(hBr.trans (hb2.mono hBr.size)).trans (hst3.below (B:=w.heap.size) (fun q hq=>(hks q hq).1) (bJ hBr.size hb2.size))
    have jit:=Lib.hid (hst3.blk (xg.out.below hb2 xg.out.lt) (fun hh=>(hks _ hh).2 rfl))
    have jgC:=Lib.hid (show yE W3 w.heap.size (w.heap.size+1) v3 (Tq x (k+1)) (wrote x (k+1)) by rw [hws.out,hwb.out];exact hP3)
    clear hP3 hst3 hks hb2 hbi hP' xg hws hwb hwl;go_wp2_with fail;go_roundw
    case rel=>exact ⟨k+1,v3,by omega,by go_num,jgC.out,jit.out,hB3⟩
    case measure=>simp [RowKit.intOf];omega
   ·obtain rfl:k=x.lines.length:=by omega
    have c1:=hP'.out.1.cell (j:=1) rfl;have c0:=hP'.out.1.cell (j:=0) rfl;have lp:=hP'.out.1.lt;have x5:=xg.out.cell (j:=5) rfl;have lx:=xg.out.lt;rw [jen] at c1
    clear hlt;cases hab:FX x
    ·rw [hab] at c1
     have hfin:=Lib.hid (show BD x=([],3) by unfold BD;rw [hab];rfl)
     clear hab;go_wp2_with fail;exact jS (v:=.tuple #[.string (kR []),.int .i64 3]) (by simp [results,results28,go_sem,kR]) rfl ⟨by rw [hfin.out],hBr⟩
    ·rw [hab] at c1
     by_cases h3:3<x.lines.length
     ·have hfin:=Lib.hid (show BD x=([],2) by unfold BD;rw [hab,ah (by simp),ak h3])
      have h3i:(3:Int)<(x.lines.length:Int):=by omega
      clear hab;go_wp2_with fail;exact jS (v:=.tuple #[.string (kR []),.int .i64 2]) (by simp [results,results28,go_sem,kR]) rfl ⟨by rw [hfin.out],hBr⟩
     ·have hfin:=Lib.hid (show BD x=(wrote x x.lines.length,0) by unfold BD;rw [hab,ah (by simp),ah h3,jc7 hab (by omega)])
      have h3i:¬ (3:Int)<(x.lines.length:Int):=by omega
      obtain ⟨A9,c9,JG⟩:=hP'.out.2.isSlice;obtain ⟨n9,hn9⟩:∃ n9,(wrote x x.lines.length).length=n9:=⟨_,rfl⟩;rw [hn9] at JG
      subst JG;have hconv:=jb3 hP'.out.2 (jel x _) (by unfold wrote;simp)
      clear hab hn9;go_wp2_with fail;exact jS (v:=.tuple #[.string (kR (wrote x x.lines.length)),.int .i64 0]) (by simp [results,results28,go_sem]) rfl ⟨by rw [hfin.out],hBr⟩
end Wh
