/- Texts of the claim, joined. -/
import Derived.WalkSpells
import Derived.WalkLawsBesides
import Derived.Lib.Hide
import Derived.Shelf.Abstract
import Derived.Maps.AppendAt
import Derived.Deep.QuietTactic
import Derived.BigQuiet
import Derived.Deep.RegionWith
import Derived.Deep.AppendLies
import Derived.Laws.CopyRow
import Derived.Lib.AppendZerosOnto
import Derived.Lib.Overlaps
import Derived.Laws.Externs
import Derived.Test.YtfhfkijmebhgmaaGreatChecked
import Derived.Test.YtfhfkijmebhgmaaGreatQ01
set_option maxHeartbeats 20000000
set_option maxRecDepth 100000
namespace Wh
open Go Go.RowKit
def okA (A:Option Addr):Prop:=∃ b off,A=some ⟨b,off,none⟩
def dD:Option Addr→Nat
 |some a=>a.block
 |none=>0
def jy:Option Addr→Nat
 |some a=>a.off
 |none=>0
theorem YH (b off:Nat):okA (some ⟨b,off,none⟩):=⟨b,off,rfl⟩
theorem okA.eq {A:Option Addr} (h:okA A):A=some ⟨dD A,jy A,none⟩:=by obtain ⟨b,off,rfl⟩:=h;rfl
section
variable {P:Program} (w:World)
theorem au (t:TypeId) (A:Option Addr) (len cap:Nat) (k:IntKind) (i:Int) (h:P.underlying t=some (.slice (P.elem t))) (hA:okA A):
  (Instr.indexAt t (.slice A len cap) (.int k i)).run P w=
   if 0≤i∧i<len then ((Go.sizeOf (P.elem t)).run P w).andThen fun s w=>.ok (.pointer (some ⟨dD A,jy A+i.toNat*s,none⟩)) w
   else (boundsPanic k i len .index).run P w:=by
 obtain ⟨b,off,rfl⟩:=hA;rw [run_indexAt_slice w t _ len cap k i h];simp only [jq,dD,jy]
end
def At (w:World) (B:Nat) (A:Option Addr) (xs:List Value):Prop:=
 xs≠[]→okA A∧dD A<B∧∀ j v,xs[j]?=some v→w.cell? ⟨dD A,jy A+j,none⟩=some v
section
variable {w w':World} {B B':Nat} {A:Option Addr} {xs:List Value}
theorem At.nil:At w B A []:=fun h=>absurd rfl h
theorem At.up (h:At w B A xs) (hb:Below B w w') (hB:B≤B'):At w' B' A xs:=fun hn=>
 let ⟨h1,h2,h3⟩:=h hn
 ⟨h1,by omega,fun j v hj=>(hb.cell (p:=⟨dD A,jy A+j,none⟩) h2).trans (h3 j v hj)⟩
theorem At.ok (h:At w B A xs) (hn:0<xs.length):okA A:=(h (by rintro rfl;simp at hn)).1
theorem At.lt (h:At w B A xs) (hn:0<xs.length):dD A<B:=(h (by rintro rfl;simp at hn)).2.1
theorem At.cell (h:At w B A xs) {j:Nat} {v:Value} (hj:xs[j]?=some v):w.cell? ⟨dD A,jy A+j,none⟩=some v:=
 (h (by rintro rfl;simp at hj)).2.2 j v hj
end
theorem nP {W w1:World} (hb:Below W.heap.size W w1):(∀ b o,b<W.heap.size→w1.cell? ⟨b,o,none⟩=W.cell? ⟨b,o,none⟩)∧(∀ b o,b<W.heap.size→w1.frozen? ⟨b,o,none⟩=W.frozen? ⟨b,o,none⟩):=
 ⟨fun b o h=>hb.cell (p:=⟨b,o,none⟩) h,fun b o h=>hb.frozen (p:=⟨b,o,none⟩) h⟩
theorem below_drewN {B:Nat} {a w:World} (h:Below B a w) (n:Nat):Below B a (w.drewN n):=⟨h.os,h.tape,h.output,h.size,h.block⟩
theorem bT {k:IntKind} {a b:Int} (h:a=b):Ending.returned (.int k a)=.returned (.int k b):=by rw [h]
theorem aY {a b:Bool} (h:a=b):Ending.returned (.bool a)=.returned (.bool b):=by rw [h]
theorem jaI {a b c d:Value} (h:a=b) (h':c=d):Ending.returned (.tuple #[a,c])=.returned (.tuple #[b,d]):=by rw [h,h']
theorem flat_get {α:Type} (enc:α→List Value) (k:Nat) (hk:∀ x,(enc x).length=k):
  ∀ (l:List α) (i j:Nat) (x:α),l[i]?=some x→j<k→(l.flatMap enc)[i*k+j]?=(enc x)[j]?
 |[],_,_,_,h,_=>by simp at h
 |y::l,0,j,x,h,hj=>by
  simp at h
  subst h;simp [nZ (show j<(enc y).length by rw [hk];exact hj)]
 |y::l,i+1,j,x,h,hj=>by
  simp only [PN] at h
  have ih:=flat_get enc k hk l i j x h hj;rw [uG,yT (by rw [hk];rw [nG];omega),hk,← ih]
  congr 1
  rw [nG];omega
theorem flat_length {α:Type} (enc:α→List Value) (k:Nat) (hk:∀ x,(enc x).length=k) (l:List α):(l.flatMap enc).length=l.length*k:=by
 induction l with
 |nil=>simp
 |cons y l ih=>rw [uG,dK,hk,ih,gQ,nG];omega
def int (n:Int):Value:=.int .i64 n
def dY (n:Int):List Value:=[.int .i64 n]
def Jv (b:Bin):List Value:=[.bool b.front,.int .i64 b.room,.int .i64 b.low,.int .i64 b.high]
def eP (x:Line):List Value:=[.int .i64 x.good,.int .i64 x.want,.int .i64 x.got,.int .i64 x.back]
def bM (x:Hold):List Value:=[.int .i64 x.order,.int .i64 x.line,.int .i64 x.bin,.int .i64 x.n]
def gV (x:Move):List Value:=[.int .i64 x.good,.int .i64 x.src,.int .i64 x.dst,.int .i64 x.n]
def jhy (b:Bin):Value:=.agg #[.bool b.front,.int .i64 b.room,.int .i64 b.low,.int .i64 b.high]
def BL (x:Line):Value:=.agg #[.int .i64 x.good,.int .i64 x.want,.int .i64 x.got,.int .i64 x.back]
def kG (x:Hold):Value:=.agg #[.int .i64 x.order,.int .i64 x.line,.int .i64 x.bin,.int .i64 x.n]
def uK (x:Move):Value:=.agg #[.int .i64 x.good,.int .i64 x.src,.int .i64 x.dst,.int .i64 x.n]
def Sl {α:Type} (enc:α→List Value) (w:World) (B:Nat) (v:Value) (l:List α):Prop:=
 ∃ A c,v=.slice A l.length c∧l.length≤140737488355232∧At w B A (l.flatMap enc)
section
variable {α:Type} {enc:α→List Value} {w w':World} {B B':Nat} {v:Value} {l:List α}
theorem Sl.up (h:Sl enc w B v l) (hb:Below B w w') (hB:B≤B'):Sl enc w' B' v l:=
 let ⟨A,c,h1,h2,h3⟩:=h
 ⟨A,c,h1,h2,h3.up hb hB⟩
theorem Sl.at_ {A:Option Addr} {n c:Nat} (h:Sl enc w B (.slice A n c) l):At w B A (l.flatMap enc):=by
 obtain ⟨A',c',h1,_,h3⟩:=h;injection h1 with e
 rw [e];exact h3
theorem Sl.drew (h:Sl enc w B v l):Sl enc w.drew B v l:=h
theorem Sl.nil:Sl enc w B (.slice none 0 0) ([]:List α):=⟨none,0,rfl,by simp,At.nil⟩
end
def xK {α:Type} (enc:α→List Value) (w:World) (B:Nat) (v:Value) (l:List (List α)):Prop:=
 ∃ A c vs,v=.slice A l.length c∧l.length≤140737488355232∧vs.length=l.length∧At w B A vs∧∀ (i:Nat) (x:List α),l[i]?=some x→∃ u,vs[i]?=some u∧Sl enc w B u x
def gI (w:World) (B:Nat) (v:Value) (l:List Order):Prop:=
 ∃ A c vs,v=.slice A l.length c∧l.length≤140737488355232∧vs.length=l.length∧
  At w B A ((l.zip vs).flatMap fun x=>[.int .i64 x.1.kind,x.2])∧∀ (i:Nat) (x:Order),l[i]?=some x→∃ u,vs[i]?=some u∧Sl eP w B u x.lines
theorem xK.up {α:Type} {enc:α→List Value} {w w':World} {B B':Nat} {v:Value} {l:List (List α)} (h:xK enc w B v l) (hb:Below B w w') (hB:B≤B'):xK enc w' B' v l:=
 let ⟨A,c,vs,h1,h2,h3,h4,h5⟩:=h
 ⟨A,c,vs,h1,h2,h3,h4.up hb hB,fun i x hi=>let ⟨u,hu,hs⟩:=h5 i x hi;⟨u,hu,hs.up hb hB⟩⟩
theorem gI.up {w w':World} {B B':Nat} {v:Value} {l:List Order} (h:gI w B v l) (hb:Below B w w') (hB:B≤B'):gI w' B' v l:=
 let ⟨A,c,vs,h1,h2,h3,h4,h5⟩:=h
 ⟨A,c,vs,h1,h2,h3,h4.up hb hB,fun i x hi=>let ⟨u,hu,hs⟩:=h5 i x hi;⟨u,hu,hs.up hb hB⟩⟩
def fZ (w:World) (B:Nat) (v:Value) (p:Plan):Prop:=
 ∃ vb vs,v=.agg #[vb,vs]∧Sl Jv w B vb p.aH∧Sl dY w B vs p.sizes
def fE (w:World) (B:Nat) (v:Value) (s:State):Prop:=
 ∃ v0 v1 v2 v3 v4 v5 v6,v=.agg #[v0,v1,v2,v3,v4,v5,v6]∧xK dY w B v0 s.on∧gI w B v1 s.orders∧Sl bM w B v2 s.holds∧Sl gV w B v3 s.moves∧
  Sl dY w B v4 s.inn∧Sl dY w B v5 s.out∧Sl dY w B v6 s.fixed
theorem fZ.up {w w':World} {B B':Nat} {v:Value} {p:Plan} (h:fZ w B v p) (hb:Below B w w') (hB:B≤B'):fZ w' B' v p:=
 let ⟨vb,vs,h1,h2,h3⟩:=h
 ⟨vb,vs,h1,h2.up hb hB,h3.up hb hB⟩
theorem fE.up {w w':World} {B B':Nat} {v:Value} {s:State} (h:fE w B v s) (hb:Below B w w') (hB:B≤B'):fE w' B' v s:=
 let ⟨v0,v1,v2,v3,v4,v5,v6,h,h0,h1,h2,h3,h4,h5,h6⟩:=h
 ⟨v0,v1,v2,v3,v4,v5,v6,h,h0.up hb hB,h1.up hb hB,h2.up hb hB,h3.up hb hB,h4.up hb hB,h5.up hb hB,h6.up hb hB⟩
section
variable {w:World} {B:Nat} {A:Option Addr}
theorem At.flat {α:Type} {enc:α→List Value} {k:Nat} (hk:∀ x,(enc x).length=k) {l:List α} (h:At w B A (l.flatMap enc)) {i:Nat} {x:α} (hi:l[i]?=some x) {j:Nat} (hj:j<k) {v:Value} (hv:(enc x)[j]?=some v):
  w.cell? ⟨dD A,jy A+i*k+j,none⟩=some v:=by
 have h1:=flat_get enc k hk l i j x hi hj;rw [hv] at h1
 rw [Nat.add_assoc];exact h.cell h1
theorem At.jdo {α:Type} {enc:α→List Value} {k:Nat} (hk:∀ x,(enc x).length=k+1) {l:List α} (h:At w B A (l.flatMap enc)) {i:Nat} (hi:i<l.length):okA A∧dD A<B:=by
 have h1:0<(l.flatMap enc).length:=by rw [flat_length enc (k+1) hk];exact Py (by omega) (by omega)
 exact ⟨h.ok h1,h.lt h1⟩
theorem At.int {l:List Int} (h:At w B A (l.flatMap dY)) {i:Nat} (hi:i<l.length):
  okA A∧dD A<B∧w.cell? ⟨dD A,jy A+i,none⟩=some (.int .i64 (aC l i)):=by
 obtain ⟨h1,h2⟩:=h.jdo (k:=0) (fun _=>rfl) hi
 have e:l[i]?=some (aC l i):=by simp [aC,hi]
 have h3:=h.flat (k:=1) (fun _=>rfl) e (j:=0) (by omega) rfl
 simp only [rJ,lZ] at h3
 exact ⟨h1,h2,h3⟩
theorem At.bin {l:List Bin} (h:At w B A (l.flatMap Jv)) {i:Nat} (hi:i<l.length):
  okA A∧dD A<B∧w.cell? ⟨dD A,jy A+i*4,none⟩=some (.bool (fK l i).front)∧w.cell? ⟨dD A,jy A+i*4+1,none⟩=some (.int .i64 (fK l i).room)∧
  w.cell? ⟨dD A,jy A+i*4+2,none⟩=some (.int .i64 (fK l i).low)∧w.cell? ⟨dD A,jy A+i*4+3,none⟩=some (.int .i64 (fK l i).high):=by
 obtain ⟨h1,h2⟩:=h.jdo (k:=3) (fun _=>rfl) hi
 have e:l[i]?=some (fK l i):=by simp [fK,hi]
 have f:=fun j hj v hv=>h.flat (k:=4) (fun _=>rfl) e (j:=j) hj (v:=v) hv
 exact ⟨h1,h2,f 0 (by omega) _ rfl,f 1 (by omega) _ rfl,f 2 (by omega) _ rfl,f 3 (by omega) _ rfl⟩
theorem At.hold {l:List Hold} (h:At w B A (l.flatMap bM)) {i:Nat} (hi:i<l.length):
  okA A∧dD A<B∧w.cell? ⟨dD A,jy A+i*4,none⟩=some (.int .i64 (hold l i).order)∧w.cell? ⟨dD A,jy A+i*4+1,none⟩=some (.int .i64 (hold l i).line)∧
  w.cell? ⟨dD A,jy A+i*4+2,none⟩=some (.int .i64 (hold l i).bin)∧w.cell? ⟨dD A,jy A+i*4+3,none⟩=some (.int .i64 (hold l i).n):=by
 obtain ⟨h1,h2⟩:=h.jdo (k:=3) (fun _=>rfl) hi
 have e:l[i]?=some (Wh.hold l i):=by simp [Wh.hold,hi]
 have f:=fun j hj v hv=>h.flat (k:=4) (fun _=>rfl) e (j:=j) hj (v:=v) hv
 exact ⟨h1,h2,f 0 (by omega) _ rfl,f 1 (by omega) _ rfl,f 2 (by omega) _ rfl,f 3 (by omega) _ rfl⟩
theorem At.line {l:List Line} (h:At w B A (l.flatMap eP)) {i:Nat} (hi:i<l.length):
  okA A∧dD A<B∧w.cell? ⟨dD A,jy A+i*4,none⟩=some (.int .i64 (bH l i).good)∧w.cell? ⟨dD A,jy A+i*4+1,none⟩=some (.int .i64 (bH l i).want)∧
  w.cell? ⟨dD A,jy A+i*4+2,none⟩=some (.int .i64 (bH l i).got)∧w.cell? ⟨dD A,jy A+i*4+3,none⟩=some (.int .i64 (bH l i).back):=by
 obtain ⟨h1,h2⟩:=h.jdo (k:=3) (fun _=>rfl) hi
 have e:l[i]?=some (bH l i):=by simp [bH,hi]
 have f:=fun j hj v hv=>h.flat (k:=4) (fun _=>rfl) e (j:=j) hj (v:=v) hv
 exact ⟨h1,h2,f 0 (by omega) _ rfl,f 1 (by omega) _ rfl,f 2 (by omega) _ rfl,f 3 (by omega) _ rfl⟩
theorem At.move {l:List Move} (h:At w B A (l.flatMap gV)) {i:Nat} (hi:i<l.length):
  okA A∧dD A<B∧w.cell? ⟨dD A,jy A+i*4,none⟩=some (.int .i64 (aB l i).good)∧w.cell? ⟨dD A,jy A+i*4+1,none⟩=some (.int .i64 (aB l i).src)∧
  w.cell? ⟨dD A,jy A+i*4+2,none⟩=some (.int .i64 (aB l i).dst)∧w.cell? ⟨dD A,jy A+i*4+3,none⟩=some (.int .i64 (aB l i).n):=by
 obtain ⟨h1,h2⟩:=h.jdo (k:=3) (fun _=>rfl) hi
 have e:l[i]?=some (aB l i):=by simp [aB,hi]
 have f:=fun j hj v hv=>h.flat (k:=4) (fun _=>rfl) e (j:=j) hj (v:=v) hv
 exact ⟨h1,h2,f 0 (by omega) _ rfl,f 1 (by omega) _ rfl,f 2 (by omega) _ rfl,f 3 (by omega) _ rfl⟩
end
theorem Sl.isSlice {α:Type} {enc:α→List Value} {w:World} {B:Nat} {v:Value} {l:List α} (h:Sl enc w B v l):∃ A c,v=.slice A l.length c:=
 let ⟨A,c,h1,_,_⟩:=h
 ⟨A,c,h1⟩
theorem xK.row {w:World} {B:Nat} {A:Option Addr} {n c:Nat} {l:List (List Int)} (h:xK dY w B (.slice A n c) l) {i:Nat} (hi:i<l.length):
  ∃ A' c',okA A∧dD A<B∧w.cell? ⟨dD A,jy A+i,none⟩=some (.slice A' (rowAt l i).length c')∧Sl dY w B (.slice A' (rowAt l i).length c') (rowAt l i):=by
 obtain ⟨A0,c0,vs,hv,_,hvl,hA,hr⟩:=h;injection hv with h1 h2 h3
 subst h1;obtain ⟨u,hu,hs⟩:=hr i l[i] (by simp [hi])
 have e:rowAt l i=l[i]:=by simp [rowAt,hi]
 have h0:0<vs.length:=by omega
 obtain ⟨A',c',rfl⟩:=hs.isSlice;rw [e];exact ⟨A',c',hA.ok h0,hA.lt h0,hA.cell hu,hs⟩
theorem gI.order {w:World} {B:Nat} {A:Option Addr} {n c:Nat} {l:List Order} (h:gI w B (.slice A n c) l) {i:Nat} (hi:i<l.length):
  ∃ A' c',okA A∧dD A<B∧w.cell? ⟨dD A,jy A+i*2,none⟩=some (.int .i64 (ay l i).kind)∧
   w.cell? ⟨dD A,jy A+i*2+1,none⟩=some (.slice A' (ay l i).lines.length c')∧Sl eP w B (.slice A' (ay l i).lines.length c') (ay l i).lines:=by
 obtain ⟨A0,c0,vs,hv,_,hvl,hA,hr⟩:=h;injection hv with h1 h2 h3
 subst h1;obtain ⟨u,hu,hs⟩:=hr i l[i] (by simp [hi])
 have e:ay l i=l[i]:=by simp [ay,hi]
 obtain ⟨A',c',rfl⟩:=hs.isSlice;rw [e];have hz:(l.zip vs)[i]?=some (l[i],.slice A' l[i].lines.length c'):=by
  rw [List.getElem?_zip_eq_some]
  exact ⟨by simp [hi],hu⟩
 have hzl:i<(l.zip vs).length:=by rw [List.length_zip];omega
 have f:=fun j hj v hv=>hA.flat (k:=2) (fun _=>rfl) hz (j:=j) hj (v:=v) hv
 obtain ⟨h1,h2⟩:=hA.jdo (k:=1) (fun _=>rfl) hzl
 exact ⟨A',c',h1,h2,f 0 (by omega) _ rfl,f 1 (by omega) _ rfl,hs⟩
/-! ### What the call itself makes -/
def Gives (R:Value→World→Prop) (w:World) (e:Ending) (w':World):Prop:=∃ v,e=.returned v∧R v w'∧Below w.heap.size w w'
def Own {α:Type} (enc:α→List Value) (size:Nat) (e:TypeId) (w:World) (base:Nat) (v:Value) (l:List α):Prop:=w.ownsRow base e size v l.length (l.flatMap enc)
def Elem (P:Program) (e:TypeId) (z:Value) (size bytes:Nat):Prop:=∃ i,P.info? e=some i∧i.zero=some z∧i.size=size∧i.bytes=bytes
theorem Af {P:Program} {e:TypeId} {z:Value} {size bytes:Nat} (h:(P.info? e).map (fun i=>(i.zero,i.size,i.bytes))=some (some z,size,bytes)):Elem P e z size bytes:=by
 cases hi:P.info? e with
 |none=>rw [hi] at h;simp at h
 |some i=>
  rw [hi] at h
  simp only [pq,AV,Ea] at h
  exact ⟨i,hi,h.1,h.2.1,h.2.2⟩
section
variable {α:Type} {enc:α→List Value} {size:Nat} {e:TypeId} {w w':World} {base:Nat} {v:Value} {l:List α}
theorem Own.nil:Own enc size e w base (.slice none 0 0) []:=World.ownsRow_nil w base e size
theorem Own.alloc (h:Own enc size e w base v l) (o:Obj):Own enc size e (w.alloc o) base v l:=Xu h o
theorem Own.from_ {base':Nat} (h:Own enc size e w base v l) (hb:base'≤base):Own enc size e w base' v l:=by
 refine ⟨h.1,?_⟩
 rcases h.2 with hn|⟨g,cap,cur,h1,h2,r⟩
 ·exact .inl hn
 ·exact .inr ⟨g,cap,cur,h1,by omega,r⟩
theorem Own.isSlice (h:Own enc size e w base v l):∃ A c,v=.slice A l.length c:=by
 rcases h.2 with ⟨h1,h2⟩|⟨g,cap,cur,h1,_⟩
 ·exact ⟨none,0,by rw [h1,h2]⟩
 ·exact ⟨_,_,h1⟩
theorem Own.below (h:Own enc size e w base v l) (hb:Below w.heap.size w w'):Own enc size e w' base v l:=by
 refine ⟨h.1,?_⟩
 rcases h.2 with hn|⟨g,cap,cur,rfl,hbg,hg,rest⟩
 ·exact .inl hn
 ·exact .inr ⟨g,cap,cur,rfl,hbg,by rw [hb.block g (gX.1 hg).1];exact hg,rest⟩
theorem Own.sl (h:Own enc size e w base v l) (hn:l.length≤140737488355232):Sl enc w w.heap.size v l:=by
 rcases h.2 with ⟨h1,h2⟩|⟨g,cap,cur,rfl,hb,hg,hnc,hcm,hcs,htake⟩
 ·obtain rfl:l=[]:=GH h2;subst h1;exact Sl.nil
 ·refine ⟨some ⟨g,0,none⟩,cap,rfl,hn,fun _=>⟨YH _ _,(gX.1 hg).1,fun j u hj=>?_⟩⟩
  have hh:w.ownsRow base e size (.slice (some ⟨g,0,none⟩) l.length cap) l.length (l.flatMap enc):=h;have:=hh.cells (g:=g) rfl j u hj;simpa [jq,dD,jy] using this
end
theorem O4 (n:Int):∀ u∈dY n,u.oneCell'=true:=by simp [dY,Value.oneCell']
theorem Own.size {α:Type} {enc:α→List Value} {size:Nat} {e:TypeId} {w:World} {base:Nat} {v:Value} {l:List α} (h:Own enc size e w base v l):∀ k,v.ownBlock=some k→base≤k∧k<w.heap.size:=yO h
section
variable {P:Program} (w:World)
theorem gK {α:Type} {enc:α→List Value} {ops:Array Oper} {rest:List Oper} {o:Oper} {a:Act} {Q:Exit→Act→World→Prop} (hgd:o.guard=none) (s x:Operand) (t e:TypeId)
  (ho:o.op=.call {callee:=.builtin .append,args:=#[s,x],argTypes:=#[t,t]}) (base:Nat) (z:Value) (size bytes:Nat) (ht:P.underlying t=some (.slice e)) (hi:Elem P e z size bytes)
  (hzs:z.cells.size=size) (hsz:0<size) (hby:bytes≤64) (v:Value) (l:List α) (y:α) (hs:a.eval s=v) (hown:Own enc size e w base v l)
  (ad:Addr) (c:Nat) (hx:a.eval x=.slice (some ad) 1 c) (hl:(enc y).length=size) (hnews:∀ j u,(enc y)[j]?=some u→w.cell? (ad.add j)=some u) (h1:∀ u∈enc y,u.oneCell'=true)
  (hn:l.length≤1000000) (hbase:base≤w.heap.size)
  (h:∀ v' w',Own enc size e w' base v' (l++[y])→w.grownBy w' v.ownBlock→(v'.ownBlock=v.ownBlock∨v'.ownBlock=some w.heap.size)→Below base w w'→wpList P ops Q rest (a.put o.dst v') w'):
  wpList P ops Q (o::rest) a w:=by
 obtain ⟨i,hi,hz,hsize,hbytes⟩:=hi;have hb:(l.length+1)*bytes≤140737488355328:=bJ (Gp (show l.length+1≤1000001 by omega) hby) (by decide)
 refine wpList_append_own_at w hgd s x t ho base e i z size bytes ht hi hz hsize hbytes hzs hsz v l.length _ hs hown ad 1 c (enc y) hx (by rw [hl,Px]) hnews h1 (by unfold maxLen;omega) hb hbase ?_
 intro v' w' h2 h3 _ h5;refine h v' w' ?_ h3 h5 ((aj _ _).grown h3 hbase fun k hk=>(yO hown k hk).1)
 unfold Own;rw [dK,lD];simpa using h2
end
theorem Sl.grow {α:Type} {enc:α→List Value} {w w':World} {v:Value} {l:List α} (h:Sl enc w w.heap.size v l) (hb:Below w.heap.size w w'):Sl enc w' w'.heap.size v l:=h.up hb hb.size
theorem fZ.grow {w w':World} {v:Value} {p:Plan} (h:fZ w w.heap.size v p) (hb:Below w.heap.size w w'):fZ w' w'.heap.size v p:=h.up hb hb.size
theorem fE.grow {w w':World} {v:Value} {s:State} (h:fE w w.heap.size v s) (hb:Below w.heap.size w w'):fE w' w'.heap.size v s:=h.up hb hb.size
end Wh
namespace Wh
open Go Go.RowKit
section
variable {P:Program} (w:World)
theorem run_append_nil (base:Nat) (t ty e:TypeId) (i:TypeInfo) (size:Nat) (ht:P.underlying t=some (.slice e)) (hi:P.info? e=some i)
  (v:Value) (n:Nat) (xs:List Value) (hown:w.ownsRow base e size v n xs) (c:Nat):(Builtin.append_ #[t,t] ty #[v,.slice none 0 c]).run P w=.ok v w:=by
 rcases hown.2 with ⟨rfl,rfl⟩|⟨g,cap,cur,rfl,_,_,hnc,_⟩
 ·simp [Builtin.append_,AO ht,Go.sizeOf,typeInfo,hi,Builtin.lenOf,Builtin.firstCells]
 ·simp [Builtin.append_,AO ht,Go.sizeOf,typeInfo,hi,Builtin.lenOf,Builtin.firstCells,hnc,storeCells]
theorem BF {α:Type} {enc:α→List Value} {ops:Array Oper} {rest:List Oper} {o:Oper} {a:Go.Act} {Q:Exit→Go.Act→World→Prop} (hgd:o.guard=none) (s x:Operand) (t e:TypeId)
  (ho:o.op=.call {callee:=.builtin .append,args:=#[s,x],argTypes:=#[t,t]}) (base:Nat) (z:Value) (size bytes:Nat) (ht:P.underlying t=some (.slice e)) (hi:Elem P e z size bytes)
  (hzs:z.cells.size=size) (hsz:0<size) (hby:bytes≤64) (v:Value) (l m:List α) (hs:a.eval s=v) (hown:Own enc size e w base v l)
  (A:Option Addr) (c B:Nat) (hx:a.eval x=.slice A m.length c) (hk:∀ y,(enc y).length=size) (hA:At w B A (m.flatMap enc)) (h1:∀ y,∀ u∈enc y,u.oneCell'=true)
  (hn:l.length+m.length≤1000000) (hbase:base≤w.heap.size)
  (h:∀ v' w',Own enc size e w' base v' (l++m)→w.grownBy w' v.ownBlock→(v'.ownBlock=v.ownBlock∨v'.ownBlock=some w.heap.size)→Below base w w'→wpList P ops Q rest (a.put o.dst v') w'):
  wpList P ops Q (o::rest) a w:=by
 obtain ⟨i,hi,hz,hsize,hbytes⟩:=hi;have hb:(l.length+m.length)*bytes≤140737488355328:=bJ (Gp hn hby) (by decide)
 have hsplit:(A=none∧m.length=0)∨∃ ad:Addr,A=some ad∧∀ j u,(m.flatMap enc)[j]?=some u→w.cell? (ad.add j)=some u:=by
  rcases KY m.length with h0|h0
  ·obtain rfl:m=[]:=GH h0;cases A with
   |none=>exact .inl ⟨rfl,rfl⟩
   |some ad=>exact .inr ⟨ad,rfl,by simp⟩
  ·have hp:0<(m.flatMap enc).length:=by rw [flat_length enc size hk];exact Py h0 hsz
   have he:=(hA.ok hp).eq;refine .inr ⟨_,he,fun j u hj=>?_⟩
   rw [jq];exact hA.cell hj
 rcases hsplit with ⟨rfl,h0⟩|⟨ad,rfl,hcells⟩
 ·obtain rfl:m=[]:=GH h0;refine lV hgd fun K hK=>?_
  have hr:=run_append_nil (P:=P) w base t o.type e i size ht hi v l.length _ hown c;unfold Oper.wp execOp;simp only [je] at hx
  simp only [ho,resolve,invoke,builtin,lW,nC,nX,rO,dP,nH,hs,hx,hr];exact hK _ _ (h v w (by rw [mJ];exact hown) (Pq w _) (.inl rfl) (aj _ _))
 ·refine wpList_append_own_at w hgd s x t ho base e i z size bytes ht hi hz hsize hbytes hzs hsz v l.length _ hs hown ad m.length c (m.flatMap enc) hx (flat_length enc size hk m) hcells
   (fun u hu=>by obtain ⟨y,_,hy⟩:=Bj.1 hu;exact h1 y u hy) (by unfold maxLen;omega) hb hbase ?_
  intro v' w' h2 h3 _ h5;refine h v' w' ?_ h3 h5 ((aj _ _).grown h3 hbase fun k hk=>(yO hown k hk).1)
  unfold Own;rw [dK,lD];exact h2
end
section
variable {α:Type} {enc:α→List Value} {size:Nat} {e:TypeId} {w w':World} {base:Nat} {v:Value} {l:List α}
theorem Own.QM (w:World) (e:TypeId) (hb:base≤w.heap.size):Own enc size e (w.alloc (.cells #[] e)) base (.slice (some ⟨w.heap.size,0,none⟩) 0 0) []:=
 World.ownsRow_made w #[] 0 hb (aT _) (by simp)
theorem Own.lit (w:World) (e:TypeId) (cs:Array Value) (l:List α) (hb:base≤w.heap.size) (hm:l.length≤1000000) (hk:∀ x,(enc x).length=size) (hc:cs.toList=l.flatMap enc):
  Own enc size e (w.alloc (.cells cs e)) base (.slice (some ⟨w.heap.size,0,none⟩) l.length l.length) l:=by
 have hs:cs.size=l.length*size:=by rw [← Bv,hc,flat_length enc size hk]
 have:=World.ownsRow_lit (e:=e) w cs l.length hb (by unfold maxLen;omega) hs
 rw [hc] at this
 exact this
theorem Own.kept {row:Option Nat} (h:Own enc size e w base v l) (hg:w.grownBy w' row) (hne:v.ownBlock=none∨v.ownBlock≠row):Own enc size e w' base v l:=World.ownsRow.kept h hg hne
theorem Own.block (h:Own enc size e w base v l) {g:Nat} (hg:v.ownBlock=some g):∃ cur,w.heap[g]?=some (.cells cur e (0,0)):=by
 rcases h.2 with ⟨rfl,_⟩|⟨g',cap,cur,rfl,_,hh,_⟩
 ·simp [Value.ownBlock] at hg
 ·simp [Value.ownBlock] at hg
  subst hg;exact ⟨cur,hh⟩
theorem Own.some_ (h:Own enc size e w base v l) (hl:0<l.length):∃ g c,v=.slice (some ⟨g,0,none⟩) l.length c∧base≤g∧g<w.heap.size:=by
 rcases h.2 with ⟨_,h0⟩|⟨g,cap,cur,h1,h2,h3,_⟩
 ·omega
 ·exact ⟨g,cap,h1,h2,(gX.1 h3).1⟩
theorem Own.apart {β:Type} {enc':β→List Value} {size':Nat} {e':TypeId} {base':Nat} {v':Value} {l':List β} (h:Own enc size e w base v l) (h':Own enc' size' e' w base' v' l') (hne:e≠e'):
  v.ownBlock=none∨v.ownBlock≠v'.ownBlock:=by
 cases hv:v.ownBlock with
 |none=>exact .inl rfl
 |some g=>
  refine .inr fun he=>?_
  obtain ⟨c1,h1⟩:=h.block hv;obtain ⟨c2,h2⟩:=h'.block he.symm;rw [h1] at h2
  injection h2 with h2
  injection h2 with _ h3
  exact hne h3
end
def SS (E2 E1:TypeId) (w:World) (base:Nat) (v:Value) (l:List (List Int)) (gs:List Nat) (vs:List Value):Prop:=
 Own (fun u:Value=>[u]) 1 E2 w base v vs∧vs.length=l.length∧gs.length=l.length∧gs.Nodup∧
  ∀ (i:Nat) (x:List Int),l[i]?=some x→∃ g c,vs[i]?=some (.slice (some ⟨g,0,none⟩) x.length c)∧gs[i]?=some g∧Own dY 1 E1 w base (.slice (some ⟨g,0,none⟩) x.length c) x
def jk (E2 E1:TypeId) (w:World) (base:Nat) (v:Value) (l:List (List Int)) (gs:List Nat):Prop:=∃ vs,SS E2 E1 w base v l gs vs
section
variable {E2 E1:TypeId} {w w':World} {base:Nat} {v:Value} {l:List (List Int)} {gs:List Nat}
theorem jk.nil:jk E2 E1 w base (.slice none 0 0) [] []:=⟨[],Own.nil,rfl,rfl,List.nodup_nil,fun i x h=>by simp at h⟩
theorem jk.below (h:jk E2 E1 w base v l gs) (hb:Below w.heap.size w w'):jk E2 E1 w' base v l gs:=
 let ⟨vs,h1,h2,h3,h4,h5⟩:=h
 ⟨vs,h1.below hb,h2,h3,h4,fun i x hi=>let ⟨g,c,e1,e2,e3⟩:=h5 i x hi;⟨g,c,e1,e2,e3.below hb⟩⟩
theorem jk.from_ {base':Nat} (h:jk E2 E1 w base v l gs) (hb:base'≤base):jk E2 E1 w base' v l gs:=
 let ⟨vs,h1,h2,h3,h4,h5⟩:=h
 ⟨vs,h1.from_ hb,h2,h3,h4,fun i x hi=>let ⟨g,c,e1,e2,e3⟩:=h5 i x hi;⟨g,c,e1,e2,e3.from_ hb⟩⟩
theorem jk.mem (h:jk E2 E1 w base v l gs) {g:Nat} (hg:g∈gs):base≤g∧g<w.heap.size:=by
 obtain ⟨vs,h1,h2,h3,h4,h5⟩:=h;obtain ⟨i,hi,rfl⟩:=cZ hg;obtain ⟨g,c,e1,e2,e3⟩:=h5 i l[i] (by simp [← h3,hi])
 rw [fF hi] at e2
 injection e2 with e2
 rw [e2];exact e3.size g rfl
theorem SS.push (hE:E1≠E2) {vs:List Value} (h:SS E2 E1 w base v l gs vs) {w1 w2:World} {v':Value} {x:List Int} {g c:Nat} (hw:Below w.heap.size w w1) (hg:w.heap.size≤g)
  (hu:Own dY 1 E1 w1 base (.slice (some ⟨g,0,none⟩) x.length c) x) (hgrow:w1.grownBy w2 v.ownBlock)
  (hown:Own (fun u:Value=>[u]) 1 E2 w2 base v' (vs++[.slice (some ⟨g,0,none⟩) x.length c])):
  jk E2 E1 w2 base v' (l++[x]) (gs++[g]):=by
 have hmem:=fun g' (hg':g'∈gs)=>jk.mem ⟨vs,h⟩ hg'
 obtain ⟨h1,h2,h3,h4,h5⟩:=h;have keep:∀ {y:List Int} {g' c':Nat},Own dY 1 E1 w1 base (.slice (some ⟨g',0,none⟩) y.length c') y→Own dY 1 E1 w2 base (.slice (some ⟨g',0,none⟩) y.length c') y:=
  fun hy=>hy.kept hgrow (Own.apart hy (h1.below hw) hE)
 refine ⟨_,hown,by simp [h2],by simp [h3],?_,fun i y hi=>?_⟩
 ·rw [List.nodup_append];refine ⟨h4,by simp,fun a ha b hb=>?_⟩
  obtain rfl:=pX.1 hb;have:=(hmem a ha).2;omega
 ·by_cases hlt:i<l.length
  ·rw [nZ hlt] at hi
   obtain ⟨g',c',e1,e2,e3⟩:=h5 i y hi;exact ⟨g',c',by rw [nZ (by omega)];exact e1,by rw [nZ (by omega)];exact e2,keep (e3.below hw)⟩
  ·rw [yT (by omega)] at hi
   have hi0:i - l.length=0:=by
    rcases KY (i - l.length) with h0|h0
    ·exact h0
    ·rw [Ei (by simp;omega)] at hi;simp at hi
   rw [hi0] at hi
   simp at hi
   subst hi;exact ⟨g,c,by rw [yT (by omega)];simp [h2,hi0],by rw [yT (by omega)];simp [h3,hi0],keep hu⟩
end
end Wh
namespace Wh
open Go Go.RowKit
def dw (w:World) (g:Nat) (e:TypeId) (cur:List Value):Prop:=w.heap[g]?=some (.cells cur.toArray e (0,0))
def spl (L:List Value) (o:Nat) (cs:List Value):List Value:=L.take o++cs++L.drop (o+cs.length)
theorem pO {L:List Value} {o:Nat} {cs:List Value} (h:o+cs.length≤L.length):(spl L o cs).length=L.length:=by
 unfold spl;simp only [dK,dS,jT];omega
theorem VD {L:List Value} {o:Nat} {cs:List Value} (h:o≤L.length):(spl L o cs).take o=L.take o:=by
 unfold spl;rw [jo,KZ (by rw [dS];omega),yP,Nat.min_self]
theorem VE {L:List Value} {o:Nat} {cs:List Value} (h:o≤L.length):(spl L o cs).take (o+cs.length)=L.take o++cs:=by
 unfold spl;rw [KZ (by rw [dK,dS];omega),A8 (by rw [dK,dS];omega)]
section
variable {w:World} {g:Nat} {e:TypeId} {cur:List Value}
theorem dw.lt (h:dw w g e cur):g<w.heap.size:=(gX.1 h).1
theorem dw.cell (h:dw w g e cur) {j:Nat} {v:Value} (hj:cur[j]?=some v):w.cell? ⟨g,j,none⟩=some v:=by
 unfold dw at h
 simp [World.cell?,h,hj]
theorem dw.row (h:dw w g e cur) (cs:List Value):dw (w.setRow g cs.toArray) g e cs:=setRow_heap w g _ _ _ _ h
theorem dw.other (h:dw w g e cur) {g':Nat} (hne:g≠g') (cs:Array Value):dw (w.setRow g' cs) g e cur:=by
 unfold dw at*
 rw [Pn w g' g cs hne];exact h
theorem dw.drew (h:dw w g e cur):dw w.drew g e cur:=h
theorem dw.alloc (h:dw w g e cur) (o:Obj):dw (w.alloc o) g e cur:=by
 unfold dw at*
 rw [LK _ _ _ (gX.1 h).1]
 exact h
theorem dw.new (w:World) (e:TypeId) (cs:Array Value):dw (w.alloc (.cells cs e)) w.heap.size e cs.toList:=by
 show (w.heap.push (.cells cs e))[w.heap.size]?=_;rw [Array.getElem?_push_size]
theorem dw.below (h:dw w g e cur) {B:Nat} {w':World} (hb:Below B w w') (hg:g<B):dw w' g e cur:=(hb.block g hg).trans h
theorem dw.grown (h:dw w g e cur) {w':World} {row:Option Nat} (hg:w.grownBy w' row) (hne:some g≠row):dw w' g e cur:=(hg.block g h.lt hne).trans h
theorem dw.shape (h:dw w g e cur):w.shape? g=some (e,cur.length):=by
 unfold dw at h
 simp [World.shape?,h]
theorem dw.frozen (h:dw w g e cur) (o:Nat):w.frozen? ⟨g,o,none⟩=false:=by
 unfold dw at h
 simp [World.frozen?,h]
theorem rE (w:World) (g:Nat) (cs:Array Value):w.grownBy (w.setRow g cs) (some g):=
 ⟨rfl,rfl,rfl,by simp [World.setRow],fun k _ hne=>Pn w g k cs (fun e=>hne (by rw [e]))⟩
theorem ET {B g:Nat} {w0 w:World} (hb:Below B w0 w) (hBg:B≤g) (cs:Array Value):Below B w0 (w.setRow g cs):=
 hb.trans ⟨rfl,rfl,rfl,by simp [World.setRow],fun k hk=>Pn w g k cs (by omega)⟩
end
section
variable {P:Program} (w:World)
theorem zZ (dT sT ty elem:TypeId) (k g o dLen dCap:Nat) (a:Addr) (sLen sCap:Nat) (cur:List Value) (t:TypeId) (cs:List Value)
  (hu:P.underlying dT=some (.slice elem)) (hs:(P.info? elem).map (·.size)=some k)
  (hg:dw w g t cur) (n:Nat) (hm:Nat.min sLen dLen=n) (hn:cs.length=n*k)
  (hsrc:∀ j v,cs[j]?=some v→w.cell? (a.add j)=some v) (hfit:o+cs.length≤cur.length) (h1:∀ v∈cs,v.oneCell'=true):
  (Builtin.copy_ #[dT,sT] ty #[.slice (some ⟨g,o,none⟩) dLen dCap,.slice (some a) sLen sCap]).run P w=
   .ok (goInt n) (w.setRow g (spl cur o cs).toArray):=by
 have hl:=Gj (P:=P) w k n a sLen sCap cs hn hsrc;have hst:=KR P g o t cs 0 cur.toArray w hg (by simpa using hfit) h1
 cases hq:P.info? elem with
 |none=>simp [hq] at hs
 |some i=>
  have hi:i.size=k:=by simpa [hq] using hs
  subst hi;simp only [Builtin.copy_,lW,AO hu,nX,Builtin.lenOf,nC,Go.sizeOf,typeInfo,XI,Lm,PN,run_program,hq,hm,hl,hst]
  simp [spl]
theorem G9 (t ty e:TypeId) (i:TypeInfo) (ht:P.underlying t=some (.slice e)) (hi:P.info? e=some i) (g n cap:Nat) (x:Value) (m:Nat) (cs:List Value) (cur:List Value)
  (hg:dw w g e cur) (hlen:Builtin.lenOf x=Sem.pure m) (hx:(Builtin.firstCells i.size m x).run P w=.ok cs.toArray w) (hroom:n+m≤cap) (hfit:n*i.size+cs.length≤cur.length) (h1:∀ v∈cs,v.oneCell'=true):
  (Builtin.append_ #[t,t] ty #[.slice (some ⟨g,0,none⟩) n cap,x]).run P w=.ok (.slice (some ⟨g,0,none⟩) (n+m) cap) (w.setRow g (spl cur (n*i.size) cs).toArray):=by
 have hst:=KR P g (n*i.size) e cs 0 cur.toArray w hg (by simpa using hfit) h1
 simp [Builtin.append_,AO ht,Go.sizeOf,typeInfo,hi,hlen,hroom,hx,jq,hst,spl]
theorem nR (z:Array Value) (n:Nat):(Builtin.zeroCells z n).size=n*z.size:=by simp [Builtin.zeroCells]
theorem Tc {z:Array Value} (h:∀ v∈z,v.oneCell'=true) (n:Nat):∀ v∈(Builtin.zeroCells z n).toList,v.oneCell'=true:=by
 intro v hv;simp only [Builtin.zeroCells,Array.toList_map,qO,Array.mem_toList_iff,Array.mem_range] at hv
 obtain ⟨j,hj,rfl⟩:=hv;have hz:0<z.size:=by
  rcases KY z.size with h0|h0
  ·rw [h0] at hj;simp at hj
  ·exact h0
 have hjm:=Nat.mod_lt j hz;rw [getElem!_pos z (j%z.size) hjm];exact h _ (Array.getElem_mem hjm)
theorem DK (t e ty:TypeId) (z:Value) (ht:P.underlying t=some (.slice e)) (hv:∀ w,(zeroValue e).run P w=.ok z w) (h1:∀ v∈z.cells,v.oneCell'=true) (g o n c:Nat) (cur:List Value)
  (hg:dw w g e cur) (hn:0<n) (hfit:o+n*z.cells.size≤cur.length):
  (Builtin.clear_ #[t] ty #[.slice (some ⟨g,o,none⟩) n c]).run P w=.ok (.tuple #[]) (w.setRow g (spl cur o (Builtin.zeroCells z.cells n).toList).toArray):=by
 have hst:=KR P g o e (Builtin.zeroCells z.cells n).toList 0 cur.toArray w hg (by simpa [nR] using hfit) (Tc h1 n)
 obtain ⟨m,rfl⟩:∃ m,n=m+1:=⟨n - 1,by omega⟩
 simp only [Builtin.clear_,lW,XI,Lm,AO ht,nX,hv,hst]
 simp [spl]
theorem jv {ops:Array Oper} {o:Oper} {a:Act} {K:Act→World→Prop} {Q:Exit→Act→World→Prop} {E:Prop}
  (hg:o.guard=none) (d x:Operand) (dT sT:TypeId) (hop:o.op=Op.call {callee:=Callee.builtin Builtin.append,args:=#[d,x],argTypes:=#[dT,sT]})
  (v u:Value) (hd:a.eval d=v) (hx:a.eval x=u) {v':Value} {w':World} (hr:(Builtin.append_ #[dT,sT] o.type #[v,u]).run P w=.ok v' w') (hK:K (a.put o.dst v') w'):
  if Region.wanted o (yielded ops a.tmps)=true then Oper.wp P o a w K Q else E:=by
 have hw:Region.wanted o (yielded ops a.tmps)=true:=by simp [Region.wanted,hg]
 rw [ak hw];unfold Oper.wp;simp [execOp,hop,resolve,invoke,builtin,hd,hx,hr,Result.andThen]
 exact hK
theorem LM {ops:Array Oper} {o:Oper} {a:Act} {K:Act→World→Prop} {Q:Exit→Act→World→Prop} {E:Prop}
  (hg:o.guard=none) (d x:Operand) (dT sT:TypeId) (hop:o.op=Op.call {callee:=Callee.builtin Builtin.copy,args:=#[d,x],argTypes:=#[dT,sT]})
  (v u:Value) (hd:a.eval d=v) (hx:a.eval x=u) {v':Value} {w':World} (hr:(Builtin.copy_ #[dT,sT] o.type #[v,u]).run P w=.ok v' w') (hK:K (a.put o.dst v') w'):
  if Region.wanted o (yielded ops a.tmps)=true then Oper.wp P o a w K Q else E:=by
 have hw:Region.wanted o (yielded ops a.tmps)=true:=by simp [Region.wanted,hg]
 rw [ak hw];unfold Oper.wp;simp [execOp,hop,resolve,invoke,builtin,hd,hx,hr,Result.andThen]
 exact hK
theorem GY {ops:Array Oper} {rest:List Oper} {o:Oper} {a:Act} {Q:Exit→Act→World→Prop} (hgd:o.guard=none) (d s:Operand) (t t':TypeId)
  (ho:o.op=.call {callee:=.builtin .copy,args:=#[d,s],argTypes:=#[t,t']}) (v u:Value) (hd:a.eval d=v) (hs:a.eval s=u) {v':Value} {w':World}
  (hr:(Builtin.copy_ #[t,t'] o.type #[v,u]).run P w=.ok v' w') (h:wpList P ops Q rest (a.put o.dst v') w'):wpList P ops Q (o::rest) a w:=
 lV hgd fun K hK=>by
  unfold Oper.wp execOp;simp only [ho,resolve,invoke,builtin,lW,nC,nX,rO,dP,nH,hd,hs,hr];exact hK _ _ h
end
theorem yB {α:Type} (enc:α→List Value) (k:Nat) (hk:∀ x,(enc x).length=k):∀ (l:List α) (i:Nat),(l.flatMap enc).take (i*k)=(l.take i).flatMap enc
 |[],i=>by simp
 |x::l,0=>by simp
 |x::l,i+1=>by
  rw [uG,eY,uG,← yB enc k hk l i,List.take_append,A8 (by rw [hk,nG];omega),hk]
  congr 2
  rw [nG];omega
theorem AL {α:Type} (enc:α→List Value) (k:Nat) (hk:∀ x,(enc x).length=k):∀ (l:List α) (i:Nat),(l.flatMap enc).drop (i*k)=(l.drop i).flatMap enc
 |[],i=>by simp
 |x::l,0=>by simp
 |x::l,i+1=>by
  rw [uG,lF,← AL enc k hk l i,List.drop_append,XO (by rw [hk,nG];omega),hk,lq]
  congr 1
  rw [nG];omega
section
variable {α:Type} {enc:α→List Value} {size:Nat} {e:TypeId} {w:World} {base:Nat} {v:Value} {l:List α}
theorem Own.row (h:Own enc size e w base v l) (hl:0<l.length):
  ∃ g cap cur,v=.slice (some ⟨g,0,none⟩) l.length cap∧base≤g∧dw w g e cur∧l.length≤cap∧cap≤maxLen∧cur.length=cap*size∧cur.take (l.length*size)=l.flatMap enc:=by
 rcases h.2 with ⟨_,h0⟩|⟨g,cap,cur,h1,h2,h3,h4,h5,h6,h7⟩
 ·omega
 ·exact ⟨g,cap,cur.toList,h1,h2,by unfold dw;simpa using h3,h4,h5,by simpa using h6,h7⟩
theorem Own.Hg (hk:∀ x,(enc x).length=size) {g cap:Nat} {cur:List Value} (hb:base≤g) (hg:dw w g e cur) (h1:l.length≤cap) (h2:cap≤maxLen) (h3:cur.length=cap*size) (h4:cur.take (l.length*size)=l.flatMap enc):
  Own enc size e w base (.slice (some ⟨g,0,none⟩) l.length cap) l:=
 ⟨flat_length enc size hk l,.inr ⟨g,cap,cur.toArray,rfl,hb,hg,h1,h2,by simpa using h3,by simpa using h4⟩⟩
end
theorem jgQ {α:Type} (enc:α→List Value) (k:Nat) (hk:∀ x,(enc x).length=k) {l:List α} {i j:Nat} (hi:i<l.length) (hj:j<k) {y:α} {u:Value} (hy:enc y=(enc l[i]).set j u):(l.set i y).flatMap enc=(l.flatMap enc).set (i*k+j) u:=by
 induction l generalizing i with
 |nil=>simp at hi
 |cons x l ih=>
  cases i with
  |zero=>
   simp only [iy,uG,Pv,iV];simp only [XH] at hy
   rw [hy,List.set_append_left _ _ (by rw [hk];exact hj)]
  |succ i=>
   simp only [iJ,uG];simp only [Ll] at hy
   rw [ih (by simpa using hi) hy,Bd _ _ (by rw [hk,nG];omega),hk]
   congr 2
   rw [nG];omega
theorem Own.store {α:Type} {enc:α→List Value} {size:Nat} {e:TypeId} {w:World} {base:Nat} {l:List α} {g n c:Nat} (h:Own enc size e w base (.slice (some ⟨g,0,none⟩) n c) l) (hk:∀ x,(enc x).length=size)
  {i j:Nat} (hi:i<l.length) (hj:j<size) {y:α} {u:Value} (hy:enc y=(enc l[i]).set j u):
  Own enc size e (w.setCell ⟨g,i*size+j,none⟩ u) base (.slice (some ⟨g,0,none⟩) n c) (l.set i y)∧w.grownBy (w.setCell ⟨g,i*size+j,none⟩ u) (some g):=by
 obtain ⟨A,c',hv⟩:=h.isSlice;injection hv with h1 h2 h3
 subst h2;obtain ⟨s1,s2⟩:=World.ownsRow.stored h (i*size+j) u;refine ⟨?_,s2⟩
 unfold Own;rw [pY,jgQ enc size hk hi hj hy];exact s1
theorem kT (w:World) (cs:Array Value) (e:TypeId):∀ j u,cs.toList[j]?=some u→(w.alloc (.cells cs e)).cell? ((⟨w.heap.size,0,none⟩:Addr).add j)=some u:=fun j u hj=>by
 rw [jq,iV];exact (dw.new w e cs).cell hj
end Wh
namespace Wh
open Go Go.RowKit Go.Shelf Go.Proofs Tryz
attribute [local go_sem] au
theorem iw (n lo hi:Int) (w:World):
  Calls prog 38 #[.int .i64 n,.int .i64 lo,.int .i64 hi] w fun e w'=>e=.returned (.bool (within n lo hi))∧w=w':=by
 go_enter func38,ntmps38
 by_cases h1:lo≤n
 ·by_cases h2:n≤hi
  ·go_wp2
   go_ret
   exact ⟨by simp [within,h1,h2],rfl⟩
  ·go_wp2
   go_ret
   exact ⟨by simp [within];omega,rfl⟩
 ·go_wp2
  go_ret
  exact ⟨by simp [within];omega,rfl⟩
theorem jaO (w:World) (v:Value) (p:Plan) (hp:fZ w w.heap.size v p):
  Calls prog 34 #[v] w fun e w'=>e=.returned (.int .i64 (bK p))∧Below w.heap.size w w':=by
 obtain ⟨_,_,rfl,⟨Ab,cb,rfl,hlb,hb⟩,⟨As,cs,rfl,hls,hs⟩⟩:=hp;have hb0:Below w.heap.size w (w.alloc (.cells #[.slice Ab p.aH.length cb,.slice As p.sizes.length cs] 25)):=(aj _ _).alloc (aA _) _;go_enter func34,ntmps34
 cases h1:within p.aH.length 1 6
 ·go_wp2_with (go_at_call 38;refine (iw _ _ _ _).mono ?_;rintro e w' ⟨rfl,rfl⟩)
  go_ret
  exact ⟨bT (yK (.inl h1)).symm,hb0⟩
 cases h2:within p.sizes.length 1 3
 ·go_wp2_with (go_at_call 38;refine (iw _ _ _ _).mono ?_;rintro e w' ⟨rfl,rfl⟩)
  go_ret
  exact ⟨bT (yK (.inr h2)).symm,hb0⟩
 go_wp2_with (go_at_call 38;refine (iw _ _ _ _).mono ?_;rintro e w' ⟨rfl,rfl⟩)
 go_loopw [3] (fun i wr=>∃ k:Nat,k≤p.aH.length∧i=.int .i64 k∧(∀ j,j<k→rH (fK p.aH j)=true)∧Below w.heap.size w wr∧w.heap.size<wr.heap.size∧wr.cell? ⟨w.heap.size,0,none⟩=some (.slice Ab p.aH.length cb)∧wr.cell? ⟨w.heap.size,1,none⟩=some (.slice As p.sizes.length cs)) (fun i _=>p.aH.length - (intOf i).toNat)
 case atStart=>exact ⟨0,aT _,rfl,fun j hj=>by omega,hb0,by simp,by simp,by simp⟩
 case round=>
  obtain ⟨k,hk,rfl,hall,hbw,hsz,hc0,hc1⟩:=hrel;by_cases hlt:k<p.aH.length
  ·obtain ⟨hA,EX,b0,b1,b2,b3⟩:=(hb.up hbw hbw.size).bin hlt;rcases OB (fK p.aH k) with ⟨g1,hno⟩|⟨g1,g2,hno⟩|⟨g1,g2,g3,hno⟩|⟨g1,g2,g3,hyes⟩
   ·go_wp2_with (go_at_call 38;refine (iw _ _ _ _).mono ?_;rintro e w' ⟨rfl,rfl⟩)
    go_ret
    exact ⟨bT (D6 h1 h2 hlt hno).symm,hbw.alloc hbw.size _⟩
   ·go_wp2_with (go_at_call 38;refine (iw _ _ _ _).mono ?_;rintro e w' ⟨rfl,rfl⟩)
    go_ret
    exact ⟨bT (D6 h1 h2 hlt hno).symm,hbw.alloc hbw.size _⟩
   ·go_wp2_with (go_at_call 38;refine (iw _ _ _ _).mono ?_;rintro e w' ⟨rfl,rfl⟩)
    go_ret
    exact ⟨bT (D6 h1 h2 hlt hno).symm,hbw.alloc hbw.size _⟩
   ·go_wp2_with (go_at_call 38;refine (iw _ _ _ _).mono ?_;rintro e w' ⟨rfl,rfl⟩)
    go_roundw
    case rel=>
     refine ⟨k+1,by omega,by go_num,fun j hj=>?_,hbw.alloc hbw.size _,by simp;omega,?_,?_⟩
     ·rcases dB.1 hj with h|rfl
      ·exact hall j h
      ·exact hyes
     ·rw [KW _ _ _ hsz];exact hc0
     ·rw [KW _ _ _ hsz];exact hc1
    case measure=>simp [intOf];omega
  ·obtain rfl:k=p.aH.length:=by omega
   have hsn:=hs.up hbw hbw.size;go_wp2_with (go_at_call 38;refine (iw _ _ _ _).mono ?_;rintro e w' ⟨rfl,rfl⟩)
   go_loop [5] (fun i=>∃ k:Nat,k≤p.sizes.length∧i=.int .i64 k∧(∀ j,j<k→vg (aC p.sizes j)=true)) (fun i=>p.sizes.length - (intOf i).toNat)
   case atStart=>exact ⟨0,aT _,rfl,fun j hj=>by omega⟩
   case round=>
    obtain ⟨k,hk,rfl,Zp⟩:=hrel;by_cases hlt:k<p.sizes.length
    ·obtain ⟨hA,EX,b0⟩:=hsn.int hlt;cases g1:within (aC p.sizes k) 1 9
     ·go_wp2_with (go_at_call 38;refine (iw _ _ _ _).mono ?_;rintro e w' ⟨rfl,rfl⟩)
      go_ret
      exact ⟨bT (CQ h1 h2 hlt g1).symm,hbw⟩
     ·go_wp2_with (go_at_call 38;refine (iw _ _ _ _).mono ?_;rintro e w' ⟨rfl,rfl⟩)
      go_round
      case rel=>
       refine ⟨k+1,by omega,by go_num,fun j hj=>?_⟩
       rcases dB.1 hj with h|rfl
       ·exact Zp j h
       ·exact g1
      case measure=>simp [intOf];omega
    ·obtain rfl:k=p.sizes.length:=by omega
     go_wp2_with (go_at_call 38;refine (iw _ _ _ _).mono ?_;rintro e w' ⟨rfl,rfl⟩)
     go_ret
     exact ⟨bT (MV h1 h2 hall Zp).symm,hbw⟩
end Wh
namespace Wh
open Go Go.RowKit Go.Shelf Go.Proofs Tryz
attribute [local go_sem] au
theorem jex (w:World) (v:Value) (l:List Int) (hv:Sl dY w w.heap.size v l) (hn:0<l.length):
  Calls prog 128 #[v] w fun e w'=>e=.returned (.int .i64 (lowest l))∧w=w':=by
 obtain ⟨A,c,rfl,hl,hA⟩:=hv;obtain ⟨hok,EX,b0⟩:=hA.int hn;have hn':1≤l.length:=hn;simp only [lZ] at b0
 go_enter func128,ntmps128
 go_wp2_with fail;go_loop [3,4] (fun m i=>∃ k:Nat,k+1≤l.length∧i=.int .i64 (k+1:Nat)∧m=.int .i64 (UK (aC l) k)) (fun _ i=>l.length - (intOf i).toNat)
 case atStart=>exact ⟨0,hn',rfl,rfl⟩
 case round=>
  obtain ⟨k,hk,rfl,rfl⟩:=hrel;by_cases hlt:k+1<l.length
  ·obtain ⟨_,_,b1⟩:=hA.int hlt;go_wp2_with fail;go_round
   case rel=>exact ⟨k+1,by omega,by go_num,by rw [UK];congr 1;split<;>omega⟩
   case measure=>simp [intOf];omega
  ·obtain rfl:k=l.length - 1:=by omega
   go_wp2_with fail;go_ret
   exact ⟨rfl,rfl⟩
theorem jey (w:World) (v:Value) (l:List Int) (hv:Sl dY w w.heap.size v l) (hn:0<l.length):
  Calls prog 129 #[v] w fun e w'=>e=.returned (.int .i64 (greatest l))∧w=w':=by
 obtain ⟨A,c,rfl,hl,hA⟩:=hv;obtain ⟨hok,EX,b0⟩:=hA.int hn;have hn':1≤l.length:=hn;simp only [lZ] at b0
 go_enter func129,ntmps129
 go_wp2_with fail;go_loop [3,4] (fun m i=>∃ k:Nat,k+1≤l.length∧i=.int .i64 (k+1:Nat)∧m=.int .i64 (UL (aC l) k)) (fun _ i=>l.length - (intOf i).toNat)
 case atStart=>exact ⟨0,hn',rfl,rfl⟩
 case round=>
  obtain ⟨k,hk,rfl,rfl⟩:=hrel;by_cases hlt:k+1<l.length
  ·obtain ⟨_,_,b1⟩:=hA.int hlt;go_wp2_with fail;go_round
   case rel=>exact ⟨k+1,by omega,by go_num,by rw [UL];congr 1;split<;>omega⟩
   case measure=>simp [intOf];omega
  ·obtain rfl:k=l.length - 1:=by omega
   go_wp2_with fail;go_ret
   exact ⟨rfl,rfl⟩
end Wh
