/- Texts of the claim, joined. -/
import Derived.Laws.EntriesVeiled
import Derived.Test.YtfhfkijmebhgmaaGreatQ12
set_option maxHeartbeats 20000000
set_option maxRecDepth 100000
namespace Wh
open Go Go.RowKit Go.Shelf Go.Proofs Tryz
attribute [local go_sem] au
theorem ja4 (p:Plan) (x:Line):(bU p x.good=false∧jY p x=false)∨(bU p x.good=true∧x.want<1∧jY p x=false)∨(bU p x.good=true∧1≤x.want∧200<x.want∧jY p x=false)∨
  (bU p x.good=true∧1≤x.want∧x.want≤200∧x.got<0∧jY p x=false)∨(bU p x.good=true∧1≤x.want∧x.want≤200∧0≤x.got∧x.want<x.got∧jY p x=false)∨
  (bU p x.good=true∧1≤x.want∧x.want≤200∧0≤x.got∧x.got≤x.want∧x.back<0∧jY p x=false)∨(bU p x.good=true∧1≤x.want∧x.want≤200∧0≤x.got∧x.got≤x.want∧0≤x.back∧x.want<x.back∧jY p x=false)∨
  (bU p x.good=true∧1≤x.want∧x.want≤200∧0≤x.got∧x.got≤x.want∧0≤x.back∧x.back≤x.want∧jY p x=true):=by
 have h1:=@jF p x;have h2:=@lM p x.good;cases hl:jY p x<;>cases hg:bU p x.good<;>simp only [hl,hg,og,AQ,yM] at h1 h2<;>simp only [reduceCtorEq,nU,nV,false_and,uz,o9,AP]<;>omega
theorem jmk (w:World) (v:Value) (p:Plan) (x:Line) (hp:fZ w w.heap.size v p) (hz:bK p=0):
  Calls prog 133 #[v,BL x] w fun e w'=>e=.returned (.bool (jY p x))∧Below w.heap.size w w':=by
 have hP:=hp;obtain ⟨_,_,rfl,⟨Ab,cb,rfl,hlb,hb⟩,⟨As,cs,rfl,hls,hs⟩⟩:=hp;have hb1:fD p 0=true:=oU.2 (by have:=jC hz;omega)
 have hb0:Below w.heap.size w ((w.alloc (.cells #[.slice Ab p.aH.length cb,.slice As p.sizes.length cs] 25)).alloc (.cells #[.int .i64 (x).good,.int .i64 (x).want,.int .i64 (x).got,.int .i64 (x).back] 44)):=((aj _ _).alloc (aA _) _).alloc (by simp) _
 unfold BL;rcases ja4 p x with ⟨g1,hf⟩|⟨g1,g2,hf⟩|⟨g1,g2,g3,hf⟩|⟨g1,g2,g3,g4,hf⟩|⟨g1,g2,g3,g4,g5,hf⟩|⟨g1,g2,g3,g4,g5,g6,hf⟩|⟨g1,g2,g3,g4,g5,g6,g7,hf⟩|⟨g1,g2,g3,g4,g5,g6,g7,hf⟩
 all_goals
  have hth:(fD p 0&&bU p x.good)=(bU p x.good):=by rw [hb1];rfl
  have WA:=Lib.hid hth;clear hth;have hf':=Lib.hid hf;clear hf;go_enter func133,ntmps133
  go_wp2_with fail;refine (Dh _ _ p 0 x.good (hP.grow hb0)).mono ?_
  rintro e W1 ⟨rfl,hc1⟩;have hB:=hb0.trans (hc1.mono hb0.size);obtain ⟨ha1,hf1⟩:=nP hc1;rw [WA.out,g1];go_wp2_with fail;go_ret
  exact ⟨aY (by rw [hf'.out]<;>first|rfl|(simp<;>omega)),hB⟩
theorem jeH (w:World) (v vl:Value) (p:Plan) (l:List Int) (lo:Int) (hp:fZ w w.heap.size v p) (hl:Sl dY w w.heap.size vl l) (hz:bK p=0):
  Calls prog 141 #[v,vl,.int .i64 lo] w fun e w'=>e=.returned (.bool (kX p l lo))∧Below w.heap.size w w':=by
 have hP:=hp;obtain ⟨_,_,rfl,⟨Ab,cb,rfl,hlb,hb⟩,⟨As,cs,rfl,hls,hs⟩⟩:=hp;have hL:=hl;obtain ⟨A,c,rfl,hll,hA⟩:=hl;have hcnt:=jC hz;have hb0:Below w.heap.size w (w.alloc (.cells #[.slice Ab p.aH.length cb,.slice As p.sizes.length cs] 25)):=(aj _ _).alloc (aA _) _;rcases jaA (p:=p) l lo (by omega) with ⟨h1,h⟩|⟨h1,h2,h⟩|⟨h1,h2,h3,h⟩|⟨h1,h2,h3,h⟩
 ·have hne:((l.length:Int)==(p.sizes.length:Int))=false:=by simp;omega
  have h':=Lib.hid h;clear h h1;go_enter func141,ntmps141
  go_wp2_with fail;go_ret
  exact ⟨aY (by rw [h'.out]),hb0⟩
 all_goals
  have hne:((l.length:Int)==(p.sizes.length:Int))=true:=by simp;omega
  have hpos:0<l.length:=by omega
  have h':=Lib.hid h;clear h h1;go_enter func141,ntmps141
  go_wp2_with (first|(go_at_call 128;refine (jex _ _ l (hL.grow hb0) hpos).mono ?_;rintro e w' ⟨rfl,rfl⟩)|(go_at_call 129;refine (jey _ _ l (hL.grow hb0) hpos).mono ?_;rintro e w' ⟨rfl,rfl⟩))
  go_ret
  exact ⟨aY (by rw [h'.out]<;>first|rfl|(simp<;>omega)),hb0⟩
theorem Yh (p:Plan) (x:Line) (W:World) (B:Nat) (hz:bK p=0) (Ab As:Option Addr) (cb cs:Nat) (h0:W.cell? ⟨B,0,none⟩=some (.slice Ab p.aH.length cb)) (h1:W.cell? ⟨B,1,none⟩=some (.slice As p.sizes.length cs)) (hB:B<W.heap.size)
  (hP:fZ W W.heap.size (.agg #[.slice Ab p.aH.length cb,.slice As p.sizes.length cs]) p):
  Calls prog 132 #[BL x,.pointer (some ⟨B,0,none⟩)] W fun e W'=>e=.returned (.bool (!jY p x))∧Below W.heap.size W W':=by
 have hb0:Below W.heap.size W (W.alloc (.cells #[.int .i64 (x).good,.int .i64 (x).want,.int .i64 (x).got,.int .i64 (x).back] 44)):=(aj _ _).alloc (aA _) _;have hz':=Lib.hid hz;clear hz;unfold BL;go_enter func132,ntmps132
 go_wp2_with fail;refine (jmk _ _ p x (hP.grow hb0) hz'.out).mono ?_
 rintro e W1 ⟨rfl,hc1⟩;go_wp2_with fail;go_ret
 exact ⟨rfl,hb0.trans (hc1.mono hb0.size)⟩
theorem JJ:Enters prog 132:=enters_of func132 (by kernel_rfl) rfl
theorem MG (p:Plan) (s:State) (h:Hold):((s.orders.length:Int)≤h.order∧oO p s h=false)∨(h.order<s.orders.length∧((s.order h.order.toNat).lines.length:Int)≤h.line∧oO p s h=false)∨
  (h.order<s.orders.length∧h.line<(s.order h.order.toNat).lines.length∧(p.aH.length:Int)≤h.bin∧oO p s h=false)∨(h.order<s.orders.length∧h.line<(s.order h.order.toNat).lines.length∧h.bin<p.aH.length∧oO p s h=true):=by
 have h1:=@ig p s h;cases hl:oO p s h<;>simp only [hl,og,AQ,yM] at h1<;>simp only [reduceCtorEq,nV,uz,o9,AP]<;>omega
theorem jhG (p:Plan) (s:State) (h:Hold) (W:World) (Bs Bp:Nat) (A1 Ab:Option Addr) (c1 cb:Nat) (hs1:W.cell? ⟨Bs,1,none⟩=some (.slice A1 s.orders.length c1)) (hp0:W.cell? ⟨Bp,0,none⟩=some (.slice Ab p.aH.length cb)) (hBs:Bs<W.heap.size) (hBp:Bp<W.heap.size)
  (hO:gI W W.heap.size (.slice A1 s.orders.length c1) s.orders) (h0:0≤h.order) (h72:s.orders.length≤1000) (Nu:∀ o,o<s.orders.length→(ay s.orders o).lines.length≤1000):
  Calls prog 134 #[kG h,.pointer (some ⟨Bs,0,none⟩),.pointer (some ⟨Bp,0,none⟩)] W fun e W'=>e=.returned (.bool (oO p s h))∧Below W.heap.size W W':=by
 have hb0:Below W.heap.size W (W.alloc (.cells #[.int .i64 (h).order,.int .i64 (h).line,.int .i64 (h).bin,.int .i64 (h).n] 46)):=(aj _ _).alloc (aA _) _;have hlW:W.heap.size<(W.alloc (.cells #[.int .i64 (h).order,.int .i64 (h).line,.int .i64 (h).bin,.int .i64 (h).n] 46)).heap.size:=by simp
 have q0:=fun o d os=>aG (w:=W.alloc (.cells #[.int .i64 (h).order,.int .i64 (h).line,.int .i64 (h).bin,.int .i64 (h).n] 46)) (b:=Bs) (by simp;omega) o d os
 have q1:=fun o d os=>aG (w:=W.alloc (.cells #[.int .i64 (h).order,.int .i64 (h).line,.int .i64 (h).bin,.int .i64 (h).n] 46)) (b:=Bp) (by simp;omega) o d os
 have q2:=fun o d os=>aG (w:=W.alloc (.cells #[.int .i64 (h).order,.int .i64 (h).line,.int .i64 (h).bin,.int .i64 (h).n] 46)) (b:=W.heap.size) hlW o d os
 unfold kG;rcases MG p s h with ⟨g1,hf⟩|⟨g1,g2,hf⟩|⟨g1,g2,g3,hf⟩|⟨g1,g2,g3,hf⟩
 ·have hf':=Lib.hid hf;have d1:decide (h.order<(s.orders.length:Int))=false:=by simpa using g1
  clear hf Nu;go_enter func134,ntmps134
  go_wp2_with fail;refine aJ (by kernel_rfl) (by kernel_rfl) ?_
  repeat (go_big_quiet_step (fail))
  refine wpQuiet_nil ?_
  intro W2 hw';have hb2:=aI hw';clear hw';go_wp2_with fail;go_ret
  exact ⟨aY (by rw [hf'.out]),hb0.trans (hb2.mono hb0.size)⟩
 ·have hf':=Lib.hid hf;have hol:h.order.toNat<s.orders.length:=by omega
  obtain ⟨A',c',hok1,yw,_,e1,hsl⟩:=hO.order hol;have hll:=Nu _ hol;unfold State.order at g2
  have q3:=fun o d os=>aG (w:=W.alloc (.cells #[.int .i64 (h).order,.int .i64 (h).line,.int .i64 (h).bin,.int .i64 (h).n] 46)) (b:=dD A1) (by simp;omega) o d os
  have d1:decide (h.order<(s.orders.length:Int))=true:=by simpa using g1
  have d2:decide (h.line<((ay s.orders h.order.toNat).lines.length:Int))=false:=by simpa using g2
  clear hf Nu;go_enter func134,ntmps134
  go_wp2_with fail;refine aJ (by kernel_rfl) (by kernel_rfl) ?_
  repeat (go_big_quiet_step (fail))
  refine wpQuiet_nil ?_
  intro W2 hw';have hb2:=aI hw';clear hw';go_wp2_with fail;go_ret
  exact ⟨aY (by rw [hf'.out]<;>first|rfl|(simp<;>omega)),hb0.trans (hb2.mono hb0.size)⟩
 ·have hf':=Lib.hid hf;have hol:h.order.toNat<s.orders.length:=by omega
  obtain ⟨A',c',hok1,yw,_,e1,hsl⟩:=hO.order hol;have hll:=Nu _ hol;unfold State.order at g2
  have q3:=fun o d os=>aG (w:=W.alloc (.cells #[.int .i64 (h).order,.int .i64 (h).line,.int .i64 (h).bin,.int .i64 (h).n] 46)) (b:=dD A1) (by simp;omega) o d os
  have d1:decide (h.order<(s.orders.length:Int))=true:=by simpa using g1
  have d2:decide (h.line<((ay s.orders h.order.toNat).lines.length:Int))=true:=by simpa using g2
  have d3:decide (h.bin<(p.aH.length:Int))=false:=by simpa using g3
  clear hf Nu;go_enter func134,ntmps134
  go_wp2_with fail;refine aJ (by kernel_rfl) (by kernel_rfl) ?_
  repeat (go_big_quiet_step (fail))
  refine wpQuiet_nil ?_
  intro W2 hw';have hb2:=aI hw';clear hw';go_wp2_with fail;go_ret
  exact ⟨aY (by rw [hf'.out]<;>first|rfl|(simp<;>omega)),hb0.trans (hb2.mono hb0.size)⟩
 ·have hf':=Lib.hid hf;have hol:h.order.toNat<s.orders.length:=by omega
  obtain ⟨A',c',hok1,yw,_,e1,hsl⟩:=hO.order hol;have hll:=Nu _ hol;unfold State.order at g2
  have q3:=fun o d os=>aG (w:=W.alloc (.cells #[.int .i64 (h).order,.int .i64 (h).line,.int .i64 (h).bin,.int .i64 (h).n] 46)) (b:=dD A1) (by simp;omega) o d os
  have d1:decide (h.order<(s.orders.length:Int))=true:=by simpa using g1
  have d2:decide (h.line<((ay s.orders h.order.toNat).lines.length:Int))=true:=by simpa using g2
  have d3:decide (h.bin<(p.aH.length:Int))=true:=by simpa using g3
  clear hf Nu;go_enter func134,ntmps134
  go_wp2_with fail;refine aJ (by kernel_rfl) (by kernel_rfl) ?_
  repeat (go_big_quiet_step (fail))
  refine wpQuiet_nil ?_
  intro W2 hw';have hb2:=aI hw';clear hw';go_wp2_with fail;go_ret
  exact ⟨aY (by rw [hf'.out]<;>first|rfl|(simp<;>omega)),hb0.trans (hb2.mono hb0.size)⟩
end Wh
namespace Wh
open Go Go.RowKit Go.Shelf Go.Proofs Tryz
attribute [local go_sem] au
theorem ja1 (p:Plan) (x:Move):((fD p x.src&&bU p x.good)=false∧jR p x=false)∨((fD p x.src&&bU p x.good)=true∧(fD p x.dst&&bU p x.good)=false∧jR p x=false)∨
  ((fD p x.src&&bU p x.good)=true∧(fD p x.dst&&bU p x.good)=true∧(x.jjY=x.dst)=false∧jR p x=false)∨
  ((fD p x.src&&bU p x.good)=true∧(fD p x.dst&&bU p x.good)=true∧(x.jjY=x.dst)=true∧x.n<1∧jR p x=false)∨
  ((fD p x.src&&bU p x.good)=true∧(fD p x.dst&&bU p x.good)=true∧(x.jjY=x.dst)=true∧1≤x.n∧200<x.n∧jR p x=false)∨
  ((fD p x.src&&bU p x.good)=true∧(fD p x.dst&&bU p x.good)=true∧(x.jjY=x.dst)=true∧1≤x.n∧x.n≤200∧jR p x=true):=by
 unfold jR;have hw:=@within_iff x.n 1 200;cases fD p x.src<;>cases bU p x.good<;>cases fD p x.dst<;>by_cases h:x.src=x.dst<;>cases hq:within x.n 1 200<;>simp [h,hq] at hw ⊢<;>omega
theorem jhF (p:Plan) (x:Move) (W:World) (B:Nat) (Ab As:Option Addr) (cb cs:Nat) (h0:W.cell? ⟨B,0,none⟩=some (.slice Ab p.aH.length cb)) (h1:W.cell? ⟨B,1,none⟩=some (.slice As p.sizes.length cs)) (hB:B<W.heap.size)
  (hP:fZ W W.heap.size (.agg #[.slice Ab p.aH.length cb,.slice As p.sizes.length cs]) p):
  Calls prog 135 #[uK x,.pointer (some ⟨B,0,none⟩)] W fun e W'=>e=.returned (.bool (jR p x))∧Below W.heap.size W W':=by
 have hb0:Below W.heap.size W (W.alloc (.cells #[.int .i64 (x).good,.int .i64 (x).src,.int .i64 (x).dst,.int .i64 (x).n] 48)):=(aj _ _).alloc (aA _) _;have hBl:B<(W.alloc (.cells #[.int .i64 (x).good,.int .i64 (x).src,.int .i64 (x).dst,.int .i64 (x).n] 48)).heap.size:=by simp;omega
 unfold uK;rcases ja1 p x with ⟨g1,hf⟩|⟨g1,g2,hf⟩|⟨g1,g2,g3,hf⟩|⟨g1,g2,g3,g4,hf⟩|⟨g1,g2,g3,g4,g5,hf⟩|⟨g1,g2,g3,g4,g5,hf⟩
 ·have hf':=Lib.hid hf;have g1':=Lib.hid g1;clear hf g1;go_enter func135,ntmps135
  go_wp2_with fail;refine (Dh _ _ p x.src x.good (hP.grow hb0)).mono ?_
  rintro e W1 ⟨rfl,hc1⟩;rw [g1'.out];go_wp2_with fail;go_ret
  exact ⟨aY (by rw [hf'.out]),hb0.trans (hc1.mono hb0.size)⟩
 all_goals
  have hf':=Lib.hid hf;have g1':=Lib.hid g1;have g2':=Lib.hid g2;clear hf g1 g2;go_enter func135,ntmps135
  go_wp2_with fail;refine (Dh _ _ p x.src x.good (hP.grow hb0)).mono ?_
  rintro e W1 ⟨rfl,hc1⟩;have TT:=hb0.trans (hc1.mono hb0.size);obtain ⟨hd1,hf1⟩:=nP hc1;rw [g1'.out];go_wp2_with fail;refine (Dh _ _ p x.dst x.good (hP.grow TT)).mono ?_
  rintro e W2 ⟨rfl,hc2⟩;have hc12:=hc1.trans (hc2.mono hc1.size);obtain ⟨hd2,hf2⟩:=nP hc12;clear hd1 hf1;rw [g2'.out];go_wp2_with fail;go_ret
  exact ⟨aY (by rw [hf'.out]<;>first|rfl|(simp<;>omega)),hb0.trans (hc12.mono hb0.size)⟩
theorem jeK (p:Plan) (s:State) (h:Hold) (W:World) (Bc Bs Bp:Nat) (A1 Ab:Option Addr) (c1 cb:Nat) (hc:W.cell? ⟨Bc,0,none⟩=some (.func (.func 134) #[] #[.pointer (some ⟨Bs,0,none⟩),.pointer (some ⟨Bp,0,none⟩)])) (hBc:Bc<W.heap.size)
  (hs1:W.cell? ⟨Bs,1,none⟩=some (.slice A1 s.orders.length c1)) (hp0:W.cell? ⟨Bp,0,none⟩=some (.slice Ab p.aH.length cb)) (hBs:Bs<W.heap.size) (hBp:Bp<W.heap.size)
  (hO:gI W W.heap.size (.slice A1 s.orders.length c1) s.orders) (h0:0≤h.order) (h72:s.orders.length≤1000) (Nu:∀ o,o<s.orders.length→(ay s.orders o).lines.length≤1000):
  Calls prog 138 #[kG h,.pointer (some ⟨Bc,0,none⟩)] W fun e W'=>e=.returned (.bool (!oO p s h))∧Below W.heap.size W W':=by
 have hb0:Below W.heap.size W (W.alloc (.cells #[.int .i64 (h).order,.int .i64 (h).line,.int .i64 (h).bin,.int .i64 (h).n] 46)):=(aj _ _).alloc (aA _) _;have hl':=Lib.hid Nu;have r1:(W.alloc (.cells #[.int .i64 (h).order,.int .i64 (h).line,.int .i64 (h).bin,.int .i64 (h).n] 46)).cell? ⟨Bs,1,none⟩=some (.slice A1 s.orders.length c1):=(hb0.cell (p:=⟨Bs,1,none⟩) hBs).trans hs1;have r2:(W.alloc (.cells #[.int .i64 (h).order,.int .i64 (h).line,.int .i64 (h).bin,.int .i64 (h).n] 46)).cell? ⟨Bp,0,none⟩=some (.slice Ab p.aH.length cb):=(hb0.cell (p:=⟨Bp,0,none⟩) hBp).trans hp0;have H:=Lib.hid (jhG p s h (W.alloc (.cells #[.int .i64 (h).order,.int .i64 (h).line,.int .i64 (h).bin,.int .i64 (h).n] 46)) Bs Bp A1 Ab c1 cb r1 r2 (by simp;omega) (by simp;omega) (hO.up hb0 hb0.size) h0 h72 Nu)
 clear Nu r1 r2;unfold kG;go_enter func138,ntmps138
 go_wp2_with fail;refine H.out.mono ?_
 rintro e W1 ⟨rfl,hc1⟩;go_wp2_with fail;go_ret
 exact ⟨rfl,hb0.trans (hc1.mono hb0.size)⟩
theorem Ua:Enters prog 138:=enters_of func138 (by kernel_rfl) rfl
theorem jeJ (p:Plan) (x:Move) (W:World) (Bc B:Nat) (Ab As:Option Addr) (cb cs:Nat) (hc:W.cell? ⟨Bc,0,none⟩=some (.func (.func 135) #[] #[.pointer (some ⟨B,0,none⟩)])) (hBc:Bc<W.heap.size)
  (h0:W.cell? ⟨B,0,none⟩=some (.slice Ab p.aH.length cb)) (h1:W.cell? ⟨B,1,none⟩=some (.slice As p.sizes.length cs)) (hB:B<W.heap.size)
  (hP:fZ W W.heap.size (.agg #[.slice Ab p.aH.length cb,.slice As p.sizes.length cs]) p):
  Calls prog 140 #[uK x,.pointer (some ⟨Bc,0,none⟩)] W fun e W'=>e=.returned (.bool (!jR p x))∧Below W.heap.size W W':=by
 have hb0:Below W.heap.size W (W.alloc (.cells #[.int .i64 (x).good,.int .i64 (x).src,.int .i64 (x).dst,.int .i64 (x).n] 48)):=(aj _ _).alloc (aA _) _;have r1:(W.alloc (.cells #[.int .i64 (x).good,.int .i64 (x).src,.int .i64 (x).dst,.int .i64 (x).n] 48)).cell? ⟨B,0,none⟩=some (.slice Ab p.aH.length cb):=(hb0.cell (p:=⟨B,0,none⟩) hB).trans h0;have r2:(W.alloc (.cells #[.int .i64 (x).good,.int .i64 (x).src,.int .i64 (x).dst,.int .i64 (x).n] 48)).cell? ⟨B,1,none⟩=some (.slice As p.sizes.length cs):=(hb0.cell (p:=⟨B,1,none⟩) hB).trans h1;have H:=Lib.hid (jhF p x (W.alloc (.cells #[.int .i64 (x).good,.int .i64 (x).src,.int .i64 (x).dst,.int .i64 (x).n] 48)) B Ab As cb cs r1 r2 (by simp;omega) (hP.grow hb0))
 clear r1 r2;unfold uK;go_enter func140,ntmps140
 go_wp2_with fail;refine H.out.mono ?_
 rintro e W1 ⟨rfl,hc1⟩;go_wp2_with fail;go_ret
 exact ⟨rfl,hb0.trans (hc1.mono hb0.size)⟩
theorem TY:Enters prog 140:=enters_of func140 (by kernel_rfl) rfl
theorem jdg (o:Order) (u:Value) (W:World) (hu:Sl eP W W.heap.size u o.lines):
  Calls prog 77 #[.agg #[.int .i64 o.kind,u]] W fun e W'=>e=.returned (.bool (!within o.lines.length 1 3))∧Below W.heap.size W W':=by
 obtain ⟨A,c,rfl,hl,hA⟩:=hu;have hb0:Below W.heap.size W (W.alloc (.cells #[.int .i64 o.kind,.slice A o.lines.length c] 42)):=(aj _ _).alloc (aA _) _;have hp:(o.lines.length<1∧within o.lines.length 1 3=false)∨(1≤o.lines.length∧3<o.lines.length∧within o.lines.length 1 3=false)∨(1≤o.lines.length∧o.lines.length≤3∧within o.lines.length 1 3=true):=by
  have h1:=@within_iff o.lines.length 1 3;cases hq:within o.lines.length 1 3<;>simp only [hq,og,AQ,yM] at h1<;>simp only [reduceCtorEq,nV,uz,o9,AP]<;>omega
 rcases hp with ⟨g1,hf⟩|⟨g1,g2,hf⟩|⟨g1,g2,hf⟩
 all_goals
  have hf':=Lib.hid hf;clear hf;go_enter func77,ntmps77
  go_wp2_with fail;go_ret
  exact ⟨aY (by rw [hf'.out]<;>first|rfl|(simp<;>omega)),hb0⟩
theorem RZ:Enters prog 77:=enters_of func77 (by kernel_rfl) rfl
end Wh
namespace Wh
open Go Go.RowKit Go.Shelf Go.Proofs Tryz
attribute [local go_sem] au
theorem DY {p:Plan} {s:State} {o:Nat} (ho:o<s.orders.length) (h:mY p (ay s.orders o)=false):formed p s=false:=by
 unfold formed;rw [jlS yC ho h];simp
theorem jd7 {l:List Hold} (h:bQ l=true):fB l=0:=by unfold fB;rw [h];rfl
theorem YD (p:Plan) (o:Order):(o.kind<0∧mY p o=false)∨(0≤o.kind∧2<o.kind∧mY p o=false)∨(0≤o.kind∧o.kind≤2∧(o.lines.any fun x=>!jY p x)=true∧mY p o=false)∨
  (0≤o.kind∧o.kind≤2∧(o.lines.any fun x=>!jY p x)=false∧mY p o=true):=by
 have h:=@vY p o;rw [xE];cases hq:mY p o<;>cases hl:o.lines.all (jY p)<;>simp only [hq,hl,og,AQ,yM,nV,uz] at h<;>
  simp only [reduceCtorEq,GR,En,nV,uz,o9,AP]<;>omega
theorem Yj {p:Plan} {s:State} (h:s.orders.all (mY p)=true):formed p s=(bQ s.holds&&(!(s.holds.any fun x=>!oO p s x)&&(!(s.moves.any fun x=>!jR p x)&&(kX p s.inn 0&&(kX p s.out 0&&kX p s.fixed (-1048576)))))):=by
 unfold formed;rw [h,xE,xE];simp [Bool.and_assoc]
theorem jhH (w:World) (v vs:Value) (p:Plan) (s:State) (hp:fZ w w.heap.size v p) (hv:fE w w.heap.size vs s) (hz:bK p=0) (h4:s.orders.length≤4) (jf1:∀ o,o<s.orders.length→(ay s.orders o).lines.length≤1000):
  Calls prog 78 #[v,vs] w fun e w'=>e=.returned (.bool (formed p s))∧Below w.heap.size w w':=by
 have hP:=hp;obtain ⟨_,_,rfl,⟨Ab,cb,rfl,hlb,hb⟩,⟨As,cs,rfl,hls,hs⟩⟩:=hp;have hS:=hv;obtain ⟨_,_,_,_,_,_,_,rfl,⟨A0,c0,vs0,rfl,hl0,hm0,ha0,hr0⟩,⟨A1,c1,vs1,rfl,hl1,hm1,ha1,hr1⟩,⟨A2,c2,rfl,hl2,ha2⟩,⟨A3,c3,rfl,hl3,ha3⟩,⟨A4,c4,rfl,hl4,ha4⟩,⟨A5,c5,rfl,hl5,ha5⟩,⟨A6,c6,rfl,CW,ha6⟩⟩:=hv;have hb0:Below w.heap.size w ((w.alloc (.cells #[.slice Ab p.aH.length cb,.slice As p.sizes.length cs] 25)).alloc (.cells #[.slice A0 s.on.length c0,.slice A1 s.orders.length c1,.slice A2 s.holds.length c2,.slice A3 s.moves.length c3,.slice A4 s.inn.length c4,.slice A5 s.out.length c5,.slice A6 s.fixed.length c6] 31)):=((aj _ _).alloc (aA _) _).alloc (by simp) _
 have hsz0:w.heap.size+1<((w.alloc (.cells #[.slice Ab p.aH.length cb,.slice As p.sizes.length cs] 25)).alloc (.cells #[.slice A0 s.on.length c0,.slice A1 s.orders.length c1,.slice A2 s.holds.length c2,.slice A3 s.moves.length c3,.slice A4 s.inn.length c4,.slice A5 s.out.length c5,.slice A6 s.fixed.length c6] 31)).heap.size:=by simp
 have hz0:(((w.alloc (.cells #[.slice Ab p.aH.length cb,.slice As p.sizes.length cs] 25)).alloc (.cells #[.slice A0 s.on.length c0,.slice A1 s.orders.length c1,.slice A2 s.holds.length c2,.slice A3 s.moves.length c3,.slice A4 s.inn.length c4,.slice A5 s.out.length c5,.slice A6 s.fixed.length c6] 31)).cell? ⟨w.heap.size,0,none⟩=some (.slice Ab p.aH.length cb)∧((w.alloc (.cells #[.slice Ab p.aH.length cb,.slice As p.sizes.length cs] 25)).alloc (.cells #[.slice A0 s.on.length c0,.slice A1 s.orders.length c1,.slice A2 s.holds.length c2,.slice A3 s.moves.length c3,.slice A4 s.inn.length c4,.slice A5 s.out.length c5,.slice A6 s.fixed.length c6] 31)).cell? ⟨w.heap.size,1,none⟩=some (.slice As p.sizes.length cs))∧
   ((w.alloc (.cells #[.slice Ab p.aH.length cb,.slice As p.sizes.length cs] 25)).alloc (.cells #[.slice A0 s.on.length c0,.slice A1 s.orders.length c1,.slice A2 s.holds.length c2,.slice A3 s.moves.length c3,.slice A4 s.inn.length c4,.slice A5 s.out.length c5,.slice A6 s.fixed.length c6] 31)).cell? ⟨w.heap.size+1,1,none⟩=some (.slice A1 s.orders.length c1)∧((w.alloc (.cells #[.slice Ab p.aH.length cb,.slice As p.sizes.length cs] 25)).alloc (.cells #[.slice A0 s.on.length c0,.slice A1 s.orders.length c1,.slice A2 s.holds.length c2,.slice A3 s.moves.length c3,.slice A4 s.inn.length c4,.slice A5 s.out.length c5,.slice A6 s.fixed.length c6] 31)).cell? ⟨w.heap.size+1,2,none⟩=some (.slice A2 s.holds.length c2)∧((w.alloc (.cells #[.slice Ab p.aH.length cb,.slice As p.sizes.length cs] 25)).alloc (.cells #[.slice A0 s.on.length c0,.slice A1 s.orders.length c1,.slice A2 s.holds.length c2,.slice A3 s.moves.length c3,.slice A4 s.inn.length c4,.slice A5 s.out.length c5,.slice A6 s.fixed.length c6] 31)).cell? ⟨w.heap.size+1,3,none⟩=some (.slice A3 s.moves.length c3)∧
   ((w.alloc (.cells #[.slice Ab p.aH.length cb,.slice As p.sizes.length cs] 25)).alloc (.cells #[.slice A0 s.on.length c0,.slice A1 s.orders.length c1,.slice A2 s.holds.length c2,.slice A3 s.moves.length c3,.slice A4 s.inn.length c4,.slice A5 s.out.length c5,.slice A6 s.fixed.length c6] 31)).cell? ⟨w.heap.size+1,4,none⟩=some (.slice A4 s.inn.length c4)∧((w.alloc (.cells #[.slice Ab p.aH.length cb,.slice As p.sizes.length cs] 25)).alloc (.cells #[.slice A0 s.on.length c0,.slice A1 s.orders.length c1,.slice A2 s.holds.length c2,.slice A3 s.moves.length c3,.slice A4 s.inn.length c4,.slice A5 s.out.length c5,.slice A6 s.fixed.length c6] 31)).cell? ⟨w.heap.size+1,5,none⟩=some (.slice A5 s.out.length c5)∧((w.alloc (.cells #[.slice Ab p.aH.length cb,.slice As p.sizes.length cs] 25)).alloc (.cells #[.slice A0 s.on.length c0,.slice A1 s.orders.length c1,.slice A2 s.holds.length c2,.slice A3 s.moves.length c3,.slice A4 s.inn.length c4,.slice A5 s.out.length c5,.slice A6 s.fixed.length c6] 31)).cell? ⟨w.heap.size+1,6,none⟩=some (.slice A6 s.fixed.length c6):=by simp
 have hO:=Lib.hid (fun W (hW:Below w.heap.size w W)=>(gI.up ⟨A1,c1,vs1,rfl,hl1,hm1,ha1,hr1⟩ hW hW.size:gI W W.heap.size (.slice A1 s.orders.length c1) s.orders))
 have hH:=Lib.hid (fun W (hW:Below w.heap.size w W)=>(Sl.up ⟨A2,c2,rfl,hl2,ha2⟩ hW hW.size:Sl bM W W.heap.size (.slice A2 s.holds.length c2) s.holds))
 have hM:=Lib.hid (fun W (hW:Below w.heap.size w W)=>(Sl.up ⟨A3,c3,rfl,hl3,ha3⟩ hW hW.size:Sl gV W W.heap.size (.slice A3 s.moves.length c3) s.moves))
 have hI:=Lib.hid (fun W (hW:Below w.heap.size w W)=>(Sl.up ⟨A4,c4,rfl,hl4,ha4⟩ hW hW.size:Sl dY W W.heap.size (.slice A4 s.inn.length c4) s.inn))
 have hU:=Lib.hid (fun W (hW:Below w.heap.size w W)=>(Sl.up ⟨A5,c5,rfl,hl5,ha5⟩ hW hW.size:Sl dY W W.heap.size (.slice A5 s.out.length c5) s.out))
 have hX:=Lib.hid (fun W (hW:Below w.heap.size w W)=>(Sl.up ⟨A6,c6,rfl,CW,ha6⟩ hW hW.size:Sl dY W W.heap.size (.slice A6 s.fixed.length c6) s.fixed))
 have hP':=Lib.hid (fun W (hW:Below w.heap.size w W)=>hP.up hW hW.size)
 have hz':=Lib.hid hz;have jdG:=Lib.hid jf1;clear hz jf1 hP;go_enter func78,ntmps78
 go_wp2_with fail;generalize hW0:(w.alloc (.cells #[.slice Ab p.aH.length cb,.slice As p.sizes.length cs] 25)).alloc (.cells #[.slice A0 s.on.length c0,.slice A1 s.orders.length c1,.slice A2 s.holds.length c2,.slice A3 s.moves.length c3,.slice A4 s.inn.length c4,.slice A5 s.out.length c5,.slice A6 s.fixed.length c6] 31)=W0 at hb0 hsz0 hz0 ⊢
 have hz0':=Lib.hid hz0;clear hW0 hz0;have hsz1:w.heap.size<W0.heap.size:=by omega
 have hK:=Lib.hid (fun W (hW:Below W0.heap.size W0 W)=>And.intro (And.intro ((hW.cell (p:=⟨w.heap.size,0,none⟩) hsz1).trans hz0'.out.1.1) ((hW.cell (p:=⟨w.heap.size,1,none⟩) hsz1).trans hz0'.out.1.2))
  (And.intro ((hW.cell (p:=⟨w.heap.size+1,1,none⟩) hsz0).trans hz0'.out.2.1) (And.intro ((hW.cell (p:=⟨w.heap.size+1,2,none⟩) hsz0).trans hz0'.out.2.2.1) (And.intro ((hW.cell (p:=⟨w.heap.size+1,3,none⟩) hsz0).trans hz0'.out.2.2.2.1)
  (And.intro ((hW.cell (p:=⟨w.heap.size+1,4,none⟩) hsz0).trans hz0'.out.2.2.2.2.1) (And.intro ((hW.cell (p:=⟨w.heap.size+1,5,none⟩) hsz0).trans hz0'.out.2.2.2.2.2.1) ((hW.cell (p:=⟨w.heap.size+1,6,none⟩) hsz0).trans hz0'.out.2.2.2.2.2.2)))))))
 obtain ⟨⟨y0,y1⟩,x1,x2,x3,x4,x5,x6⟩:=hK.out W0 (aj _ _);go_loopw [12,6] (fun i _ wr=>∃ k:Nat,k≤s.orders.length∧i=.int .i64 k∧(∀ j,j<k→mY p (ay s.orders j)=true)∧Below W0.heap.size W0 wr) (fun i _ _=>s.orders.length - (intOf i).toNat)
 case atStart=>exact ⟨0,aT _,rfl,fun j hj=>by omega,aj _ _⟩
 case round=>
  clear y0 y1 x1 x2 x3 x4 x5 x6;obtain ⟨k,hk,rfl,hall,hbw⟩:=hrel;have hall':=Lib.hid hall;clear hall;have hB:=hb0.trans (hbw.mono hb0.size);by_cases hlt:k<s.orders.length
  ·obtain ⟨A',c',hok1,yw,d0,d1,hsl⟩:=(hO.out wr hB).order hlt;have hba:Below W0.heap.size W0 (wr.alloc (.cells #[.int .i64 (ay s.orders k).kind,.slice A' (ay s.orders k).lines.length c'] 42)):=hbw.alloc hbw.size _;have Y5:Below wr.heap.size wr (wr.alloc (.cells #[.int .i64 (ay s.orders k).kind,.slice A' (ay s.orders k).lines.length c'] 42)):=(aj _ _).alloc (aA _) _;rcases YD p (ay s.orders k) with ⟨g1,hf⟩|⟨g1,g2,hf⟩|⟨g1,g2,g3,hf⟩|⟨g1,g2,g3,hf⟩
   ·have hfin:=Lib.hid (DY hlt hf);clear hf;go_wp2_with fail;go_ret
    exact ⟨aY (by rw [hfin.out]),hb0.trans (hba.mono hb0.size)⟩
   ·have hfin:=Lib.hid (DY hlt hf);clear hf;go_wp2_with fail;go_ret
    exact ⟨aY (by rw [hfin.out]),hb0.trans (hba.mono hb0.size)⟩
   ·have hfin:=Lib.hid (DY hlt hf);have g3':=Lib.hid g3;clear hf g3;go_wp2_with fail;refine (nT _ _ (ay s.orders k).lines 132 #[.pointer (some ⟨w.heap.size,0,none⟩)] (fun x=>!jY p x) JJ (hsl.grow Y5) (fun j _ W hW=>by
     have hW2:=hba.trans (hW.mono hba.size);obtain ⟨⟨a0,a1⟩,_⟩:=hK.out W hW2;exact Yh p _ W w.heap.size hz'.out Ab As cb cs a0 a1 (aZ hsz1 hW2.size) (hP'.out W (hb0.trans (hW2.mono hb0.size))))).mono ?_
    rintro e W2 ⟨rfl,hb2⟩;rw [g3'.out];have DV:=hba.trans (hb2.mono hba.size);go_wp2_with fail;go_ret
    exact ⟨aY (by rw [hfin.out]),hb0.trans (DV.mono hb0.size)⟩
   ·have g3':=Lib.hid g3;have hf':=Lib.hid hf;clear hf g3;go_wp2_with fail;refine (nT _ _ (ay s.orders k).lines 132 #[.pointer (some ⟨w.heap.size,0,none⟩)] (fun x=>!jY p x) JJ (hsl.grow Y5) (fun j _ W hW=>by
     have hW2:=hba.trans (hW.mono hba.size);obtain ⟨⟨a0,a1⟩,_⟩:=hK.out W hW2;exact Yh p _ W w.heap.size hz'.out Ab As cb cs a0 a1 (aZ hsz1 hW2.size) (hP'.out W (hb0.trans (hW2.mono hb0.size))))).mono ?_
    rintro e W2 ⟨rfl,hb2⟩;rw [g3'.out];have DV:=hba.trans (hb2.mono hba.size);go_wp2_with fail;go_roundw
    case rel=>
     refine ⟨k+1,by omega,by go_num,fun j hj=>?_,DV⟩
     rcases dB.1 hj with h|rfl
     ·exact hall'.out j h
     ·exact hf'.out
    case measure=>simp [intOf];omega
  ·obtain rfl:k=s.orders.length:=by omega
   have hrest:=Lib.hid (Yj (uo yC hall'.out));obtain ⟨⟨y0,y1⟩,x1,x2,x3,x4,x5,x6⟩:=hK.out wr hbw;have aV:w.heap.size+1<wr.heap.size:=aZ hsz0 hbw.size;have aW:w.heap.size<wr.heap.size:=by omega
   have hba:Below W0.heap.size W0 ((wr.alloc (.cells #[.func (.func 134) #[] #[.pointer (some ⟨w.heap.size+1,0,none⟩),.pointer (some ⟨w.heap.size,0,none⟩)]] 136)).alloc (.cells #[.func (.func 135) #[] #[.pointer (some ⟨w.heap.size,0,none⟩)]] 153)):=(hbw.alloc hbw.size _).alloc (by have:=hbw.size;simp;omega) _
   have hbc:wr.heap.size+1<((wr.alloc (.cells #[.func (.func 134) #[] #[.pointer (some ⟨w.heap.size+1,0,none⟩),.pointer (some ⟨w.heap.size,0,none⟩)]] 136)).alloc (.cells #[.func (.func 135) #[] #[.pointer (some ⟨w.heap.size,0,none⟩)]] 153)).heap.size:=by simp
   have hz9:((wr.alloc (.cells #[.func (.func 134) #[] #[.pointer (some ⟨w.heap.size+1,0,none⟩),.pointer (some ⟨w.heap.size,0,none⟩)]] 136)).alloc (.cells #[.func (.func 135) #[] #[.pointer (some ⟨w.heap.size,0,none⟩)]] 153)).cell? ⟨wr.heap.size,0,none⟩=some (.func (.func 134) #[] #[.pointer (some ⟨w.heap.size+1,0,none⟩),.pointer (some ⟨w.heap.size,0,none⟩)])∧
     ((wr.alloc (.cells #[.func (.func 134) #[] #[.pointer (some ⟨w.heap.size+1,0,none⟩),.pointer (some ⟨w.heap.size,0,none⟩)]] 136)).alloc (.cells #[.func (.func 135) #[] #[.pointer (some ⟨w.heap.size,0,none⟩)]] 153)).cell? ⟨wr.heap.size+1,0,none⟩=some (.func (.func 135) #[] #[.pointer (some ⟨w.heap.size,0,none⟩)]):=by simp
   go_wp2_with fail;generalize hW1:(wr.alloc (.cells #[.func (.func 134) #[] #[.pointer (some ⟨w.heap.size+1,0,none⟩),.pointer (some ⟨w.heap.size,0,none⟩)]] 136)).alloc (.cells #[.func (.func 135) #[] #[.pointer (some ⟨w.heap.size,0,none⟩)]] 153)=W1 at hba hbc hz9 ⊢
   have jnx:=Lib.hid hz9;clear hW1 hz9 y0 y1 x1 x2 x3 x4 x5 x6;have hB1:=hb0.trans (hba.mono hb0.size);refine (O6 _ _ s.holds (hH.out W1 hB1)).mono ?_
   rintro e W2 ⟨rfl,hb2⟩;have jdN:=hba.trans (hb2.mono hba.size);have hB2:=hb0.trans (jdN.mono hb0.size);cases hok:bQ s.holds
   ·have hc:fB s.holds=1:=by unfold fB;rw [hok];rfl
    have hfin:=Lib.hid (show formed p s=false by rw [hrest.out,hok];rfl)
    rw [hc];clear hc hok;go_wp2_with fail;go_ret
    exact ⟨aY (by rw [hfin.out]),hB2⟩
   ·have hc:fB s.holds=0:=jd7 hok;have hn0:=Lib.hid (fun k (hk:k<s.holds.length)=>(zH hok hk).1.1)
    have hr1:=Lib.hid (hrest.out.trans (by rw [hok,rU]))
    rw [hc];clear hc hok;obtain ⟨⟨y0,y1⟩,x1,x2,x3,x4,x5,x6⟩:=hK.out W2 jdN;go_wp2_with fail;clear y0 y1 x1 x2 x3 x4 x5 x6;have jor:wr.heap.size<W1.heap.size:=by omega
    refine (NK _ _ s.holds 138 #[.pointer (some ⟨wr.heap.size,0,none⟩)] (fun x=>!oO p s x) Ua (hH.out W2 hB2) (fun j hj W hW=>by
     have hW1:=hb2.trans (hW.mono hb2.size);have hW2:=jdN.trans (hW.mono jdN.size);obtain ⟨⟨a0,a1⟩,e1,_⟩:=hK.out W hW2;have hBW:=hb0.trans (hW2.mono hb0.size);exact jeK p s _ W wr.heap.size (w.heap.size+1) w.heap.size A1 Ab c1 cb ((hW1.cell (p:=⟨wr.heap.size,0,none⟩) jor).trans jnx.out.1) (aZ jor hW1.size) e1 a0 (aZ hsz0 hW2.size) (aZ hsz1 hW2.size)
      (hO.out W hBW) (hn0.out j hj) (by omega) jdG.out)).mono ?_
    rintro e W3 ⟨rfl,hb3⟩;have jdM:=jdN.trans (hb3.mono jdN.size);have hB3:=hb0.trans (jdM.mono hb0.size);cases hh:(s.holds.any fun x=>!oO p s x)
    ·have hr2:=Lib.hid (hr1.out.trans (by rw [hh,En,rU]))
     obtain ⟨⟨y0,y1⟩,x1,x2,x3,x4,x5,x6⟩:=hK.out W3 jdM;clear hh;go_wp2_with fail;clear y0 y1 x1 x2 x3 x4 x5 x6;refine (NJ _ _ s.moves 140 #[.pointer (some ⟨wr.heap.size+1,0,none⟩)] (fun x=>!jR p x) TY (hM.out W3 hB3) (fun j hj W hW=>by
      have Ie:=hb2.trans (hb3.mono hb2.size);have hW1:=Ie.trans (hW.mono Ie.size);have hW3:=jdM.trans (hW.mono jdM.size);obtain ⟨⟨a0,a1⟩,e1,_⟩:=hK.out W hW3;have hBW:=hb0.trans (hW3.mono hb0.size);exact jeJ p _ W (wr.heap.size+1) w.heap.size Ab As cb cs ((hW1.cell (p:=⟨wr.heap.size+1,0,none⟩) hbc).trans jnx.out.2) (aZ hbc hW1.size) a0 a1 (aZ hsz1 hW3.size) (hP'.out W hBW))).mono ?_
     rintro e W4 ⟨rfl,hb4⟩;have jiB:=jdM.trans (hb4.mono jdM.size);have hB4:=hb0.trans (jiB.mono hb0.size);cases hmv:(s.moves.any fun x=>!jR p x)
     ·have hr3:=Lib.hid (hr2.out.trans (by rw [hmv,En,rU]))
      obtain ⟨⟨y0,y1⟩,x1,x2,x3,x4,x5,x6⟩:=hK.out W4 jiB;clear hmv;go_wp2_with fail;clear y0 y1 x1 x2 x3 x4 x5 x6;refine (jeH _ _ _ p s.inn 0 (hP'.out W4 hB4) (hI.out W4 hB4) hz'.out).mono ?_
      rintro e W5 ⟨rfl,hb5⟩;have jiA:=jiB.trans (hb5.mono jiB.size);have hB5:=hb0.trans (jiA.mono hb0.size);cases hq1:kX p s.inn 0
      ·have hfin:=Lib.hid (show formed p s=false by rw [hr3.out,hq1];rfl)
       clear hq1;go_wp2_with fail;go_ret
       exact ⟨aY (by rw [hfin.out]),hB5⟩
      ·have hr4:=Lib.hid (hr3.out.trans (by rw [hq1,rU]))
       obtain ⟨⟨y0,y1⟩,x1,x2,x3,x4,x5,x6⟩:=hK.out W5 jiA;clear hq1;go_wp2_with fail;clear y0 y1 x1 x2 x3 x4 x5 x6;refine (jeH _ _ _ p s.out 0 (hP'.out W5 hB5) (hU.out W5 hB5) hz'.out).mono ?_
       rintro e W6 ⟨rfl,hb6⟩;have jos:=jiA.trans (hb6.mono jiA.size);have O7:=hb0.trans (jos.mono hb0.size);cases hq2:kX p s.out 0
       ·have hfin:=Lib.hid (show formed p s=false by rw [hr4.out,hq2];rfl)
        clear hq2;go_wp2_with fail;go_ret
        exact ⟨aY (by rw [hfin.out]),O7⟩
       ·have hr5:=Lib.hid (hr4.out.trans (by rw [hq2,rU]))
        obtain ⟨⟨y0,y1⟩,x1,x2,x3,x4,x5,x6⟩:=hK.out W6 jos;clear hq2;go_wp2_with fail;clear y0 y1 x1 x2 x3 x4 x5 x6;refine (jeH _ _ _ p s.fixed (-1048576) (hP'.out W6 O7) (hX.out W6 O7) hz'.out).mono ?_
        rintro e W7 ⟨rfl,hb7⟩;have hB7:=O7.trans (hb7.mono O7.size);go_wp2_with fail;go_ret
        exact ⟨aY (by rw [hr5.out]),hB7⟩
     ·have hfin:=Lib.hid (show formed p s=false by rw [hr2.out,hmv];rfl)
      clear hmv;go_wp2_with fail;go_ret
      exact ⟨aY (by rw [hfin.out]),hB4⟩
    ·have hfin:=Lib.hid (show formed p s=false by rw [hr1.out,hh];rfl)
     clear hh;go_wp2_with fail;go_ret
     exact ⟨aY (by rw [hfin.out]),hB3⟩
end Wh
