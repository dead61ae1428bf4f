/- Texts of the claim, joined. -/
import Derived.Laws.StructEq
import Derived.Deep.RegionHeld3
import Derived.Test.YtfhfkijmebhgmaaGreatQ12
set_option maxHeartbeats 20000000
set_option maxRecDepth 100000
namespace Wh
open Go Go.RowKit Go.Shelf Go.Proofs Tryz
attribute [local go_sem] au
theorem jbb {l:List Hold} {o ln b:Int} {k:Nat} (hk:k<l.length) (h:sameKey o ln b (hold l k)=true) (hn:∀ j,j<k→sameKey o ln b (hold l j)=false):aF l o ln b=(hold l k).n:=by
 unfold aF;have:l.find? (sameKey o ln b)=some (hold l k):=by
  rw [List.find?_eq_some_iff_getElem]
  refine ⟨h,k,hk,(bV hk).symm,fun j hj=>?_⟩
  have:=hn j hj;rw [bV (by omega)] at this
  rw [this];rfl
 rw [this]
theorem YX {l:List Hold} {o ln b:Int} (hn:∀ j,j<l.length→sameKey o ln b (hold l j)=false):aF l o ln b=0:=by
 refine sJ fun x hx hk=>?_
 obtain ⟨i,hi,rfl⟩:=cZ hx;have h:=hn i hi;rw [bV hi,sameKey_iff.2 hk] at h
 cases h
theorem jdu (o ln b:Int) (h:Hold):((h.order==o)=false∧sameKey o ln b h=false)∨((h.order==o)=true∧(h.line==ln)=false∧sameKey o ln b h=false)∨
  ((h.order==o)=true∧(h.line==ln)=true∧(h.bin==b)=false∧sameKey o ln b h=false)∨((h.order==o)=true∧(h.line==ln)=true∧(h.bin==b)=true∧sameKey o ln b h=true):=by
 unfold sameKey;by_cases h1:h.order=o<;>by_cases h2:h.line=ln<;>by_cases h3:h.bin=b<;>simp [h1,h2,h3]
theorem VK (w:World) (v:Value) (l:List Hold) (o ln b:Int) (hv:Sl bM w w.heap.size v l):
  Calls prog 108 #[v,.int .i64 o,.int .i64 ln,.int .i64 b] w fun e w'=>e=.returned (.int .i64 (aF l o ln b))∧w=w':=by
 obtain ⟨A,c,rfl,hl,hA⟩:=hv;go_enter func108,ntmps108
 go_wp2_with fail;go_loop [9] (fun i=>∃ k:Nat,k≤l.length∧i=.int .i64 k∧(∀ j,j<k→sameKey o ln b (hold l j)=false)) (fun i=>l.length - (intOf i).toNat)
 case atStart=>exact ⟨0,aT _,rfl,fun j hj=>by omega⟩
 case round=>
  obtain ⟨k,hk,rfl,hall⟩:=hrel;have hall':=Lib.hid hall;clear hall;by_cases hlt:k<l.length
  ·obtain ⟨hok,EX,b0,b1,b2,b3⟩:=hA.hold hlt;rcases jdu o ln b (hold l k) with ⟨g1,hs⟩|⟨g1,g2,hs⟩|⟨g1,g2,g3,hs⟩|⟨g1,g2,g3,hs⟩
   ·have hs':=Lib.hid hs;clear hs;go_wp2_with fail;go_round
    case rel=>
     refine ⟨k+1,by omega,by go_num,fun j hj=>?_⟩
     rcases dB.1 hj with h|rfl
     ·exact hall'.out j h
     ·exact hs'.out
    case measure=>simp [intOf];omega
   ·have hs':=Lib.hid hs;clear hs;go_wp2_with fail;go_round
    case rel=>
     refine ⟨k+1,by omega,by go_num,fun j hj=>?_⟩
     rcases dB.1 hj with h|rfl
     ·exact hall'.out j h
     ·exact hs'.out
    case measure=>simp [intOf];omega
   ·have hs':=Lib.hid hs;clear hs;go_wp2_with fail;go_round
    case rel=>
     refine ⟨k+1,by omega,by go_num,fun j hj=>?_⟩
     rcases dB.1 hj with h|rfl
     ·exact hall'.out j h
     ·exact hs'.out
    case measure=>simp [intOf];omega
   ·have hfin:=Lib.hid (jbb hlt hs hall'.out);clear hs;go_wp2_with fail;go_ret
    exact ⟨bT hfin.out.symm,rfl⟩
  ·obtain rfl:k=l.length:=by omega
   have hfin:=Lib.hid (YX hall'.out);go_wp2_with fail;go_ret
   exact ⟨bT hfin.out.symm,rfl⟩
theorem OY (w:World) (v:Value) (l:List Hold) (o ln:Int) (hv:Sl bM w w.heap.size v l) (hok:bQ l=true):
  Calls prog 92 #[v,.int .i64 o,.int .i64 ln] w fun e w'=>e=.returned (.int .i64 (kept l o ln))∧w=w':=by
 have hV:=hv;obtain ⟨A,c,rfl,hl,hA⟩:=hv;obtain ⟨g1,g2⟩:=bC.1 hok;have hr:=fun b=>wY g1 g2 o ln b
 have hfin:=Lib.hid (yc hok o ln);have hr':=Lib.hid hr;clear hok g1 g2 hr;go_enter func92,ntmps92
 go_wp2_with fail;go_loop [7,8] (fun n i=>∃ k:Nat,k≤6∧i=.int .i64 k∧n=.int .i64 (sumTo (fun b=>aF l o ln b) k)) (fun _ i=>6 - (intOf i).toNat)
 case atStart=>exact ⟨0,by omega,rfl,rfl⟩
 case round=>
  obtain ⟨k,hk,rfl,rfl⟩:=hrel;obtain ⟨u1,u2⟩:=sZ (f:=fun b=>aF l o ln b) (n:=k) (m:=200) (fun j _=>hr'.out j)
  have u3:sumTo (fun b=>aF l o ln b) k≤1200:=by omega
  clear u2;by_cases hlt:k<6
  ·obtain ⟨q1,q2⟩:=hr'.out k;go_wp2_with fail;refine (VK _ _ _ _ _ _ hV).mono ?_
   rintro e w' ⟨rfl,rfl⟩;go_wp2_with fail;go_round
   case rel=>exact ⟨k+1,by omega,by go_num,rfl⟩
   case measure=>simp [intOf];omega
  ·obtain rfl:k=6:=by omega
   go_wp2_with fail;go_ret
   exact ⟨bT hfin.out.symm,rfl⟩
theorem ja5 (o ln:Int) (h:Hold):((h.order==o)=false∧qV o ln h=false)∨((h.order==o)=true∧(h.line==ln)=false∧qV o ln h=false)∨
  ((h.order==o)=true∧(h.line==ln)=true∧qV o ln h=true):=by
 unfold qV;by_cases h1:h.order=o<;>by_cases h2:h.line=ln<;>simp [h1,h2]
def yg (l:List Hold) (o ln:Int) (k:Nat):Int:=kept (l.take k) o ln
theorem jba {l:List Hold} {o ln:Int} {k:Nat} (hk:k<l.length) (h:qV o ln (hold l k)=true):yg l o ln (k+1)=yg l o ln k+(hold l k).n:=by
 unfold yg kept;rw [l9 hk,qR,← bV hk,uI,h];simp
theorem UQ {l:List Hold} {o ln:Int} {k:Nat} (hk:k<l.length) (h:qV o ln (hold l k)=false):yg l o ln (k+1)=yg l o ln k:=by
 unfold yg kept;rw [l9 hk,qR,← bV hk,uI,h];simp
theorem jhU {l:List Hold} (h:bQ l=true) (k:Nat):bQ (l.take k)=true:=by
 obtain ⟨g1,g2⟩:=bC.1 h;exact bC.2 ⟨fun x hx=>g1 x (Lc hx),g2.sublist (List.take_sublist k l)⟩
theorem SC {l:List Hold}:fB l=0↔bQ l=true:=by
 unfold fB;cases bQ l<;>simp
theorem jgb (w:World) (v:Value) (l:List Hold) (o ln:Int) (hv:Sl bM w w.heap.size v l):
  Calls prog 83 #[v,.int .i64 o,.int .i64 ln] w fun e w'=>e=.returned (.tuple #[.int .i64 (F7 l o ln).1,.int .i64 (F7 l o ln).2])∧Below w.heap.size w w':=by
 have hV:=hv;obtain ⟨A,c,rfl,hl,hA⟩:=hv;go_enter func83,ntmps83
 go_wp2_with fail;refine (O6 _ _ _ hV).mono ?_
 rintro e W1 ⟨rfl,hb1⟩;cases hok:bQ l
 ·have hc:fB l=1:=by unfold fB;rw [hok];rfl
  have hk:F7 l o ln=(0,1):=by unfold F7;rw [hok];rfl
  have hk':=Lib.hid hk;rw [hc];clear hc hk;go_wp2_with fail;go_ret2
  exact ⟨jaI (by rw [hk'.out];rfl) (by rw [hk'.out];rfl),hb1⟩
 ·have hc:fB l=0:=SC.2 hok;have hk:F7 l o ln=(kept l o ln,0):=by unfold F7;rw [hok];rfl
  have hrg:=fun k=>lK (jhU hok k) o ln
  have jbl:=Lib.hid hrg;have hk':=Lib.hid hk;rw [hc];clear hc hk hok hrg;go_wp2_with fail;go_loopw [9,19,11] (fun n i _ wr=>∃ k:Nat,k≤l.length∧i=.int .i64 k∧n=.int .i64 (yg l o ln k)∧Below W1.heap.size W1 wr) (fun _ i _ _=>l.length - (intOf i).toNat)
  case atStart=>exact ⟨0,aT _,rfl,rfl,aj _ _⟩
  case round=>
   obtain ⟨k,hk,rfl,rfl,hbw⟩:=hrel;obtain ⟨u1,u2⟩:=jbl.out k;change 0≤yg l o ln k at u1
   change yg l o ln k≤1200 at u2
   by_cases hlt:k<l.length
   ·have TT:=hb1.trans (hbw.mono hb1.size);obtain ⟨hok,EX,b0,b1,b2,b3⟩:=(hA.up TT TT.size).hold hlt;obtain ⟨u3,u4⟩:=jbl.out (k+1);change 0≤yg l o ln (k+1) at u3
    change yg l o ln (k+1)≤1200 at u4
    rcases ja5 o ln (hold l k) with ⟨g1,hs⟩|⟨g1,g2,hs⟩|⟨g1,g2,hs⟩
    ·have hs':=Lib.hid (UQ hlt hs);clear hs;go_wp2_with fail;go_roundw
     case rel=>exact ⟨k+1,by omega,by go_num,by rw [hs'.out],hbw.alloc hbw.size _⟩
     case measure=>simp [intOf];omega
    ·have hs':=Lib.hid (UQ hlt hs);clear hs;go_wp2_with fail;go_roundw
     case rel=>exact ⟨k+1,by omega,by go_num,by rw [hs'.out],hbw.alloc hbw.size _⟩
     case measure=>simp [intOf];omega
    ·have hs':=Lib.hid (jba hlt hs);rw [hs'.out] at u3 u4
     clear hs;go_wp2_with fail;go_roundw
     case rel=>exact ⟨k+1,by omega,by go_num,by rw [hs'.out],hbw.alloc hbw.size _⟩
     case measure=>simp [intOf];omega
   ·obtain rfl:k=l.length:=by omega
    have hfin:=Lib.hid (show yg l o ln l.length=kept l o ln by unfold yg;rw [jE])
    go_wp2_with fail;go_ret2
    exact ⟨jaI (by rw [hk'.out,← hfin.out];rfl) (by rw [hk'.out];rfl),hb1.trans (hbw.mono hb1.size)⟩
theorem Nc {P:Program} {t:TypeId} (hS:P.underlying t=some (.struct (P.fieldsOf t))) (hp:P.stoodInHeld t=false) (xs ys:Array Value) (b:Bool) (h:∀ w,(Op.eqFields 9999 xs ys (P.fieldsOf t).toList).run P w=.ok b w) (w:World):
  (binOp .neq t (.agg xs) (.agg ys)).run P w=.ok (.bool (!b)) w:=by
 rw [run_neq_struct,show (10000:Nat)=9999+1 from rfl,run_equalIn_agg w 9999 t _ _ hS hp,h]
 rfl
theorem jic {x y:Hold}:x=y↔x.order=y.order∧x.line=y.line∧x.bin=y.bin∧x.n=y.n:=by
 cases x;cases y;simp
theorem jhX (x y:Hold) (w:World):(binOp .neq 46 (.agg #[.int .i64 (x).order,.int .i64 (x).line,.int .i64 (x).bin,.int .i64 (x).n]) (.agg #[.int .i64 (y).order,.int .i64 (y).line,.int .i64 (y).bin,.int .i64 (y).n])).run prog w=.ok (.bool (!decide (x=y))) w:=by
 refine Nc (by kernel_rfl) (by kernel_rfl) _ _ _ (fun w=>?_) w
 have u3:=underlying3;have a3:=isAgg3;have z3:=sizeOf3;simp only [Program.fieldsOf,underlying46];go_simp
 by_cases h1:x.order=y.order<;>by_cases h2:x.line=y.line<;>by_cases h3:x.bin=y.bin<;>by_cases h4:x.n=y.n<;>simp [h1,h2,h3,h4,jic]
theorem jaL (w:World) (va vb:Value) (a b:List Hold) (ha:Sl bM w w.heap.size va a) (hb:Sl bM w w.heap.size vb b):
  Calls prog 25 #[va,vb] w fun e w'=>e=.returned (.bool (decide (a=b)))∧Below w.heap.size w w':=by
 obtain ⟨A,c,rfl,hl,hA⟩:=ha;obtain ⟨B,d,rfl,hl2,hB⟩:=hb;have hq:=jhX;have hg:prog.eqGuardType prog.depth 46=false:=by kernel_rfl
 go_enter func25,ntmps25
 by_cases hlen:a.length=b.length
 ·have hnb:((a.length:Int)!=(b.length:Int))=false:=by rw [hlen];simp
  have hle1:=lY hlen;have hle2:=lY hlen.symm;have hlen':=Lib.hid hlen;clear hlen;go_wp2_with fail;go_loopw [5] (fun i wr=>∃ k:Nat,k≤a.length∧i=.int .i64 k∧(∀ j,j<k→hold a j=hold b j)∧Below w.heap.size w wr) (fun i _=>a.length - (intOf i).toNat)
  case atStart=>exact ⟨0,aT _,rfl,fun j hj=>by omega,aj _ _⟩
  case round=>
   obtain ⟨k,hk,rfl,hall,hbw⟩:=hrel;have hall':=Lib.hid hall;clear hall;by_cases hlt:k<a.length
   ·have hlt2:k<b.length:=by omega
    obtain ⟨o1,o2,o3,o4,o5,o6⟩:=(hA.up hbw hbw.size).hold hlt;obtain ⟨p1,p2,p3,p4,p5,p6⟩:=(hB.up hbw hbw.size).hold hlt2;by_cases he:hold a k=hold b k
    ·have heb:decide (hold a k=hold b k)=true:=by rw [he];simp
     have he':=Lib.hid he;clear he;go_wp2_with fail;go_quiet (fail)
     go_wp2_with fail;go_roundw
     case rel=>
      refine ⟨k+1,by omega,by go_num,fun j hj=>?_,below_drewN hbw _⟩
      rcases dB.1 hj with h|rfl
      ·exact hall'.out j h
      ·exact he'.out
     case measure=>simp [intOf];omega
    ·have heb:decide (hold a k=hold b k)=false:=by simp [he]
     have hne:=Lib.hid (show a≠b from fun e=>he (by rw [e]))
     go_wp2_with fail;go_quiet (fail)
     go_wp2_with fail;go_ret
     exact ⟨aY (by rw [iU hne.out]),below_drewN hbw _⟩
   ·obtain rfl:k=a.length:=by omega
    have heq:a=b:=wM hlen'.out fun i h1 h2=>by rw [← bV h1,← bV h2];exact hall'.out i h1
    have heq':=Lib.hid heq;clear heq;go_wp2_with fail;go_ret
    exact ⟨aY (by rw [lg heq'.out]),hbw⟩
 ·have hne:=Lib.hid (show a≠b from fun e=>hlen (by rw [e]))
  have hnb:((a.length:Int)!=(b.length:Int))=true:=by simp;omega
  go_wp2_with fail;go_ret
  exact ⟨aY (by rw [iU hne.out]),aj _ _⟩
end Wh
namespace Wh
open Go Go.RowKit Go.Shelf Go.Proofs Tryz
attribute [local go_sem] au
theorem jjh (w:World):Calls prog 41 #[] w (Gives (fun u w'=>fZ w' w'.heap.size u NR) w):=by
 go_enter func41,ntmps41
 go_wp2_with fail;refine jS (v:=.agg #[.slice (some ⟨w.heap.size+1,0,none⟩) 3 3,.slice (some ⟨w.heap.size+1+1,0,none⟩) 2 2]) (by simp [results,results41,go_sem]) rfl ?_
 have b1:=Own.lit (base:=0) (enc:=Jv) (size:=4) (w.alloc (.cells #[.slice (some ⟨w.heap.size+1,0,none⟩) 3 3,.slice (some ⟨w.heap.size+1+1,0,none⟩) 2 2] 25)) 125
  #[.bool false, .int .i64 100, .int .i64 0, .int .i64 0, .bool true, .int .i64 30, .int .i64 4, .int .i64 8, .bool false, .int .i64 60, .int .i64 0, .int .i64 0] NR.aH (aT _) (by decide) (fun _ => rfl) rfl
 have b2:=b1.alloc (.cells #[.int .i64 2,.int .i64 3] 3);have b3:=Own.lit (base:=0) (enc:=dY) (size:=1) ((w.alloc (.cells #[.slice (some ⟨w.heap.size+1,0,none⟩) 3 3,.slice (some ⟨w.heap.size+1+1,0,none⟩) 2 2] 25)).alloc
  (.cells #[.bool false,.int .i64 100,.int .i64 0,.int .i64 0,.bool true,.int .i64 30,.int .i64 4,.int .i64 8,.bool false,.int .i64 60,.int .i64 0,.int .i64 0] 125)) 3 #[.int .i64 2,.int .i64 3] NR.sizes (aT _) (by decide) (fun _=>rfl) rfl
 simp only [fP] at b2 b3
 exact ⟨_,rfl,⟨_,_,rfl,b2.sl (by decide),b3.sl (by decide)⟩,(((aj _ _).alloc (aA _) _).alloc (by simp) _).alloc (by simp;omega) _⟩
theorem I5 (w:World) (va vb:Value) (a b:List Int) (ha:Sl dY w w.heap.size va a) (hb:Sl dY w w.heap.size vb b):
  Calls prog 59 #[va,vb] w fun e w'=>e=.returned (.bool (decide (a=b)))∧Below w.heap.size w w':=by
 obtain ⟨A,c,rfl,hl,hA⟩:=ha;obtain ⟨B,d,rfl,hl2,hB⟩:=hb;go_enter func59,ntmps59
 by_cases hlen:a.length=b.length
 ·have hnb:((a.length:Int)!=(b.length:Int))=false:=by rw [hlen];simp
  have hle1:=lY hlen;have hle2:=lY hlen.symm;have hlen':=Lib.hid hlen;clear hlen;go_wp2_with fail;go_loopw [5] (fun i wr=>∃ k:Nat,k≤a.length∧i=.int .i64 k∧(∀ j,j<k→aC a j=aC b j)∧Below w.heap.size w wr) (fun i _=>a.length - (intOf i).toNat)
  case atStart=>exact ⟨0,aT _,rfl,fun j hj=>by omega,aj _ _⟩
  case round=>
   obtain ⟨k,hk,rfl,hall,hbw⟩:=hrel;have hall':=Lib.hid hall;clear hall;by_cases hlt:k<a.length
   ·have hlt2:k<b.length:=by omega
    obtain ⟨o1,o2,o3⟩:=(hA.up hbw hbw.size).int hlt;obtain ⟨p1,p2,p3⟩:=(hB.up hbw hbw.size).int hlt2;by_cases he:aC a k=aC b k
    ·have heb:(aC a k!=aC b k)=false:=by rw [he];simp
     have he':=Lib.hid he;clear he;go_wp2_with fail;go_quiet (fail)
     go_wp2_with fail;go_roundw
     case rel=>
      refine ⟨k+1,by omega,by go_num,fun j hj=>?_,below_drewN hbw _⟩
      rcases dB.1 hj with h|rfl
      ·exact hall'.out j h
      ·exact he'.out
     case measure=>simp [intOf];omega
    ·have heb:(aC a k!=aC b k)=true:=by simp [he]
     have hne:=Lib.hid (show a≠b from fun e=>he (by rw [e]))
     go_wp2_with fail;go_quiet (fail)
     go_wp2_with fail;go_ret
     exact ⟨aY (by rw [iU hne.out]),below_drewN hbw _⟩
   ·obtain rfl:k=a.length:=by omega
    have heq:a=b:=wM hlen'.out fun i h1 h2=>by rw [← qW h1,← qW h2];exact hall'.out i h1
    have heq':=Lib.hid heq;clear heq;go_wp2_with fail;go_ret
    exact ⟨aY (by rw [lg heq'.out]),hbw⟩
 ·have hne:=Lib.hid (show a≠b from fun e=>hlen (by rw [e]))
  have hnb:((a.length:Int)!=(b.length:Int))=true:=by simp;omega
  go_wp2_with fail;go_ret
  exact ⟨aY (by rw [iU hne.out]),aj _ _⟩
theorem jdj (w:World) (va vb:Value) (a b:List (List Int)) (ha:xK dY w w.heap.size va a) (hb:xK dY w w.heap.size vb b):
  Calls prog 58 #[va,vb] w fun e w'=>e=.returned (.bool (decide (a=b)))∧Below w.heap.size w w':=by
 have hA:=ha;have hB:=hb;obtain ⟨A,c,vs,rfl,hl,hvl,hAt,hrows⟩:=ha;obtain ⟨B,d,us,rfl,hl2,hul,hBt,hrows2⟩:=hb;go_enter func58,ntmps58
 by_cases hlen:a.length=b.length
 ·have hnb:((a.length:Int)!=(b.length:Int))=false:=by rw [hlen];simp
  have hle1:=lY hlen;have hle2:=lY hlen.symm;have hlen':=Lib.hid hlen;clear hlen;go_wp2_with fail;go_loopw [5] (fun i wr=>∃ k:Nat,k≤a.length∧i=.int .i64 k∧(∀ j,j<k→rowAt a j=rowAt b j)∧Below w.heap.size w wr) (fun i _=>a.length - (intOf i).toNat)
  case atStart=>exact ⟨0,aT _,rfl,fun j hj=>by omega,aj _ _⟩
  case round=>
   obtain ⟨k,hk,rfl,hall,hbw⟩:=hrel;have hall':=Lib.hid hall;clear hall;by_cases hlt:k<a.length
   ·have hlt2:k<b.length:=by omega
    obtain ⟨A1,c1,o1,o2,o3,hs1⟩:=(hA.up hbw hbw.size).row hlt;obtain ⟨B1,d1,p1,p2,p3,hs2⟩:=(hB.up hbw hbw.size).row hlt2;go_wp2_with fail;obtain ⟨r,hr⟩:∃ r,decide (rowAt a k=rowAt b k)=r:=⟨_,rfl⟩;have hc:=fun (W:World) (h1:Sl dY W W.heap.size (.slice A1 (rowAt a k).length c1) (rowAt a k)) (h2:Sl dY W W.heap.size (.slice B1 (rowAt b k).length d1) (rowAt b k))=>I5 W _ _ _ _ h1 h2
    simp only [hr] at hc
    have hr':=Lib.hid hr;have hc':=Lib.hid hc;clear hr hc;cases r
    ·have hne:=Lib.hid (show a≠b from fun e=>by have:=hr'.out;rw [e] at this;simp at this)
     go_region_with (go_at_call 59;refine (hc'.out _ hs1.drew hs2.drew).mono ?_;rintro e W1 ⟨rfl,hb1⟩)
     all_goals
      have jM:=hbw.drew.trans (hb1.mono hbw.size);go_wp2_with fail;go_ret
      exact ⟨aY (by rw [iU hne.out]),jM⟩
    ·have he':=Lib.hid (uy hr'.out);go_region_with (go_at_call 59;refine (hc'.out _ hs1.drew hs2.drew).mono ?_;rintro e W1 ⟨rfl,hb1⟩)
     all_goals
      have jM:=hbw.drew.trans (hb1.mono hbw.size);go_wp2_with fail;go_roundw
      case rel=>
       refine ⟨k+1,by omega,by go_num,fun j hj=>?_,jM⟩
       rcases dB.1 hj with h|rfl
       ·exact hall'.out j h
       ·exact he'.out
      case measure=>simp [intOf];omega
   ·obtain rfl:k=a.length:=by omega
    have heq:a=b:=wM hlen'.out fun i h1 h2=>by rw [← oh h1,← oh h2];exact hall'.out i h1
    have heq':=Lib.hid heq;clear heq;go_wp2_with fail;go_ret
    exact ⟨aY (by rw [lg heq'.out]),hbw⟩
 ·have hne:=Lib.hid (show a≠b from fun e=>hlen (by rw [e]))
  have hnb:((a.length:Int)!=(b.length:Int))=true:=by simp;omega
  go_wp2_with fail;go_ret
  exact ⟨aY (by rw [iU hne.out]),aj _ _⟩
end Wh
namespace Wh
open Go Go.RowKit Go.Shelf Go.Proofs Tryz
attribute [local go_sem] au
theorem jhW (x:Line) (w:World):(binOp .neq 44 (.agg #[.int .i64 (x).good,.int .i64 (x).want,.int .i64 (x).got,.int .i64 (x).back]) (.agg #[.int .i64 (x).good,.int .i64 (x).want,.int .i64 (x).got,.int .i64 (x).back])).run prog w=.ok (.bool false) w:=by
 refine Nc (by kernel_rfl) (by kernel_rfl) _ _ true (fun w=>?_) w
 have u3:=underlying3;have a3:=isAgg3;have z3:=sizeOf3;simp only [Program.fieldsOf,underlying44];go_simp
theorem jhV (x:Move) (w:World):(binOp .neq 48 (.agg #[.int .i64 (x).good,.int .i64 (x).src,.int .i64 (x).dst,.int .i64 (x).n]) (.agg #[.int .i64 (x).good,.int .i64 (x).src,.int .i64 (x).dst,.int .i64 (x).n])).run prog w=.ok (.bool false) w:=by
 refine Nc (by kernel_rfl) (by kernel_rfl) _ _ true (fun w=>?_) w
 have u3:=underlying3;have a3:=isAgg3;have z3:=sizeOf3;simp only [Program.fieldsOf,underlying48];go_simp
theorem dw.two (w:World) (cs cs':Array Value) (e e':TypeId):dw ((w.alloc (.cells cs e)).alloc (.cells cs' e')).drew (w.heap.size+1) e' cs'.toList:=by
 have:=dw.new (w.alloc (.cells cs e)) e' cs';have h:dw ((w.alloc (.cells cs e)).alloc (.cells cs' e')) (w.heap.size+1) e' cs'.toList:=by simpa using this
 exact h.drew
theorem Sl.len {α:Type} {enc:α→List Value} {w:World} {B:Nat} {v:Value} {l:List α} (h:Sl enc w B v l):l.length≤140737488355232:=let ⟨_,_,_,h,_⟩:=h;h
theorem Yu (w:World) (va vb:Value) (s:State) (ha:fE w w.heap.size va s) (hb:fE w w.heap.size vb s):
  Calls prog 19 #[va,vb] w fun e w'=>e=.returned (.bool true)∧Below w.heap.size w w':=by
 obtain ⟨_,_,_,_,_,_,_,rfl,⟨A0,c0,vs0,rfl,hl0,hm0,ha0,hr0⟩,⟨A1,c1,vs1,rfl,hl1,hm1,ha1,hr1⟩,⟨A2,c2,rfl,hl2,ha2⟩,⟨A3,c3,rfl,hl3,ha3⟩,⟨A4,c4,rfl,hl4,ha4⟩,⟨A5,c5,rfl,hl5,ha5⟩,⟨A6,c6,rfl,CW,ha6⟩⟩:=ha;obtain ⟨_,_,_,_,_,_,_,rfl,⟨B0,d0,us0,rfl,_,hn0,hb0,ht0⟩,⟨B1,d1,us1,rfl,_,hn1,hb1,ht1⟩,⟨B2,d2,rfl,_,hb2⟩,⟨B3,d3,rfl,_,hb3⟩,⟨B4,d4,rfl,_,hb4⟩,⟨B5,d5,rfl,_,hb5⟩,⟨B6,d6,rfl,_,hb6⟩⟩:=hb;have hNa:=Lib.hid (fun W (hW:Below w.heap.size w W)=>(xK.up ⟨A0,c0,vs0,rfl,hl0,hm0,ha0,hr0⟩ hW hW.size:xK dY W W.heap.size (.slice A0 s.on.length c0) s.on))
 have hNb:=Lib.hid (fun W (hW:Below w.heap.size w W)=>(xK.up ⟨B0,d0,us0,rfl,hl0,hn0,hb0,ht0⟩ hW hW.size:xK dY W W.heap.size (.slice B0 s.on.length d0) s.on))
 have hOa:=Lib.hid (fun W (hW:Below w.heap.size w W)=>(gI.up ⟨A1,c1,vs1,rfl,hl1,hm1,ha1,hr1⟩ hW hW.size:gI W W.heap.size (.slice A1 s.orders.length c1) s.orders))
 have hOb:=Lib.hid (fun W (hW:Below w.heap.size w W)=>(gI.up ⟨B1,d1,us1,rfl,hl1,hn1,hb1,ht1⟩ hW hW.size:gI W W.heap.size (.slice B1 s.orders.length d1) s.orders))
 have hHa:=Lib.hid (fun W (hW:Below w.heap.size w W)=>(Sl.up ⟨A2,c2,rfl,hl2,ha2⟩ hW hW.size:Sl bM W W.heap.size (.slice A2 s.holds.length c2) s.holds))
 have hHb:=Lib.hid (fun W (hW:Below w.heap.size w W)=>(Sl.up ⟨B2,d2,rfl,hl2,hb2⟩ hW hW.size:Sl bM W W.heap.size (.slice B2 s.holds.length d2) s.holds))
 have hMa:=Lib.hid (fun W (hW:Below w.heap.size w W)=>(Sl.up ⟨A3,c3,rfl,hl3,ha3⟩ hW hW.size:Sl gV W W.heap.size (.slice A3 s.moves.length c3) s.moves))
 have hMb:=Lib.hid (fun W (hW:Below w.heap.size w W)=>(Sl.up ⟨B3,d3,rfl,hl3,hb3⟩ hW hW.size:Sl gV W W.heap.size (.slice B3 s.moves.length d3) s.moves))
 have hIa:=Lib.hid (fun W (hW:Below w.heap.size w W)=>(Sl.up ⟨A4,c4,rfl,hl4,ha4⟩ hW hW.size:Sl dY W W.heap.size (.slice A4 s.inn.length c4) s.inn))
 have hIb:=Lib.hid (fun W (hW:Below w.heap.size w W)=>(Sl.up ⟨B4,d4,rfl,hl4,hb4⟩ hW hW.size:Sl dY W W.heap.size (.slice B4 s.inn.length d4) s.inn))
 have hUa:=Lib.hid (fun W (hW:Below w.heap.size w W)=>(Sl.up ⟨A5,c5,rfl,hl5,ha5⟩ hW hW.size:Sl dY W W.heap.size (.slice A5 s.out.length c5) s.out))
 have hUb:=Lib.hid (fun W (hW:Below w.heap.size w W)=>(Sl.up ⟨B5,d5,rfl,hl5,hb5⟩ hW hW.size:Sl dY W W.heap.size (.slice B5 s.out.length d5) s.out))
 have hXa:=Lib.hid (fun W (hW:Below w.heap.size w W)=>(Sl.up ⟨A6,c6,rfl,CW,ha6⟩ hW hW.size:Sl dY W W.heap.size (.slice A6 s.fixed.length c6) s.fixed))
 have hXb:=Lib.hid (fun W (hW:Below w.heap.size w W)=>(Sl.up ⟨B6,d6,rfl,CW,hb6⟩ hW hW.size:Sl dY W W.heap.size (.slice B6 s.fixed.length d6) s.fixed))
 clear hm0 ha0 hr0 hm1 ha1 hr1 ha2 ha3 ha4 ha5 ha6 hn0 hb0 ht0 hn1 hb1 ht1 hb2 hb3 hb4 hb5 hb6;have hb0:Below w.heap.size w ((w.alloc (.cells #[.slice A0 s.on.length c0,.slice A1 s.orders.length c1,.slice A2 s.holds.length c2,.slice A3 s.moves.length c3,.slice A4 s.inn.length c4,.slice A5 s.out.length c5,.slice A6 s.fixed.length c6] 31)).alloc (.cells #[.slice B0 s.on.length d0,.slice B1 s.orders.length d1,.slice B2 s.holds.length d2,.slice B3 s.moves.length d3,.slice B4 s.inn.length d4,.slice B5 s.out.length d5,.slice B6 s.fixed.length d6] 31)):=((aj _ _).alloc (aA _) _).alloc (by simp) _
 have hsz0:w.heap.size+1<((w.alloc (.cells #[.slice A0 s.on.length c0,.slice A1 s.orders.length c1,.slice A2 s.holds.length c2,.slice A3 s.moves.length c3,.slice A4 s.inn.length c4,.slice A5 s.out.length c5,.slice A6 s.fixed.length c6] 31)).alloc (.cells #[.slice B0 s.on.length d0,.slice B1 s.orders.length d1,.slice B2 s.holds.length d2,.slice B3 s.moves.length d3,.slice B4 s.inn.length d4,.slice B5 s.out.length d5,.slice B6 s.fixed.length d6] 31)).heap.size:=by simp
 have hz0:dw ((w.alloc (.cells #[.slice A0 s.on.length c0,.slice A1 s.orders.length c1,.slice A2 s.holds.length c2,.slice A3 s.moves.length c3,.slice A4 s.inn.length c4,.slice A5 s.out.length c5,.slice A6 s.fixed.length c6] 31)).alloc (.cells #[.slice B0 s.on.length d0,.slice B1 s.orders.length d1,.slice B2 s.holds.length d2,.slice B3 s.moves.length d3,.slice B4 s.inn.length d4,.slice B5 s.out.length d5,.slice B6 s.fixed.length d6] 31)) w.heap.size 31 [.slice A0 s.on.length c0,.slice A1 s.orders.length c1,.slice A2 s.holds.length c2,.slice A3 s.moves.length c3,.slice A4 s.inn.length c4,.slice A5 s.out.length c5,.slice A6 s.fixed.length c6]∧
   dw ((w.alloc (.cells #[.slice A0 s.on.length c0,.slice A1 s.orders.length c1,.slice A2 s.holds.length c2,.slice A3 s.moves.length c3,.slice A4 s.inn.length c4,.slice A5 s.out.length c5,.slice A6 s.fixed.length c6] 31)).alloc (.cells #[.slice B0 s.on.length d0,.slice B1 s.orders.length d1,.slice B2 s.holds.length d2,.slice B3 s.moves.length d3,.slice B4 s.inn.length d4,.slice B5 s.out.length d5,.slice B6 s.fixed.length d6] 31)) (w.heap.size+1) 31 [.slice B0 s.on.length d0,.slice B1 s.orders.length d1,.slice B2 s.holds.length d2,.slice B3 s.moves.length d3,.slice B4 s.inn.length d4,.slice B5 s.out.length d5,.slice B6 s.fixed.length d6]:=
  ⟨(dw.new _ _ _).alloc _,by have:=dw.new (w.alloc (.cells #[.slice A0 s.on.length c0,.slice A1 s.orders.length c1,.slice A2 s.holds.length c2,.slice A3 s.moves.length c3,.slice A4 s.inn.length c4,.slice A5 s.out.length c5,.slice A6 s.fixed.length c6] 31)) 31 #[.slice B0 s.on.length d0,.slice B1 s.orders.length d1,.slice B2 s.holds.length d2,.slice B3 s.moves.length d3,.slice B4 s.inn.length d4,.slice B5 s.out.length d5,.slice B6 s.fixed.length d6];simpa using this⟩
 have hql:=jhW;have hqm:=jhV;have hg1:prog.eqGuardType prog.depth 44=false:=by kernel_rfl
 have hg2:prog.eqGuardType prog.depth 48=false:=by kernel_rfl
 have jnO:=Lib.hid hql;have jqb:=Lib.hid hqm;have hg1':=Lib.hid hg1;have jqG:=Lib.hid hg2;clear hql hqm hg1 hg2;go_enter func19,ntmps19
 go_wp2_with fail;generalize hW0:(w.alloc (.cells #[.slice A0 s.on.length c0,.slice A1 s.orders.length c1,.slice A2 s.holds.length c2,.slice A3 s.moves.length c3,.slice A4 s.inn.length c4,.slice A5 s.out.length c5,.slice A6 s.fixed.length c6] 31)).alloc (.cells #[.slice B0 s.on.length d0,.slice B1 s.orders.length d1,.slice B2 s.holds.length d2,.slice B3 s.moves.length d3,.slice B4 s.inn.length d4,.slice B5 s.out.length d5,.slice B6 s.fixed.length d6] 31)=W0 at hb0 hsz0 hz0 ⊢
 have hz0':=Lib.hid hz0;clear hW0 hz0;have hsz1:w.heap.size<W0.heap.size:=by omega
 have hKa:=Lib.hid (fun W (hW:Below W0.heap.size W0 W) (j:Nat) (v:Value) (hj:[.slice A0 s.on.length c0,.slice A1 s.orders.length c1,.slice A2 s.holds.length c2,.slice A3 s.moves.length c3,.slice A4 s.inn.length c4,.slice A5 s.out.length c5,.slice A6 s.fixed.length c6][j]?=some v)=>(hz0'.out.1.below hW hsz1).cell hj)
 have hKb:=Lib.hid (fun W (hW:Below W0.heap.size W0 W) (j:Nat) (v:Value) (hj:[.slice B0 s.on.length d0,.slice B1 s.orders.length d1,.slice B2 s.holds.length d2,.slice B3 s.moves.length d3,.slice B4 s.inn.length d4,.slice B5 s.out.length d5,.slice B6 s.fixed.length d6][j]?=some v)=>(hz0'.out.2.below hW hsz0).cell hj)
 have xa0:=hKa.out W0 (aj W0.heap.size W0) 0 _ rfl;have xb0:=hKb.out W0 (aj W0.heap.size W0) 0 _ rfl;have xa1:=hKa.out W0 (aj W0.heap.size W0) 1 _ rfl;have xb1:=hKb.out W0 (aj W0.heap.size W0) 1 _ rfl;have xa2:=hKa.out W0 (aj W0.heap.size W0) 2 _ rfl;have xb2:=hKb.out W0 (aj W0.heap.size W0) 2 _ rfl;have xa3:=hKa.out W0 (aj W0.heap.size W0) 3 _ rfl;have xb3:=hKb.out W0 (aj W0.heap.size W0) 3 _ rfl;have xa4:=hKa.out W0 (aj W0.heap.size W0) 4 _ rfl;have xb4:=hKb.out W0 (aj W0.heap.size W0) 4 _ rfl;have xa5:=hKa.out W0 (aj W0.heap.size W0) 5 _ rfl;have xb5:=hKb.out W0 (aj W0.heap.size W0) 5 _ rfl;have xa6:=hKa.out W0 (aj W0.heap.size W0) 6 _ rfl;have xb6:=hKb.out W0 (aj W0.heap.size W0) 6 _ rfl;have aV:=aZ hsz0 (show W0.heap.size≤(World.heap W0).size from lG (aj W0.heap.size W0))
 have aW:=aZ hsz1 (show W0.heap.size≤(World.heap W0).size from lG (aj W0.heap.size W0))
 go_wp2_with fail;clear xa0 xb0 xa1 xb1 xa2 xb2 xa3 xb3 xa4 xb4 xa5 xb5 xa6 xb6 aV aW;refine (jdj _ _ _ s.on s.on (hNa.out _ hb0) (hNb.out _ hb0)).mono ?_
 rintro e W1 ⟨rfl,h1⟩;rw [lg (rfl:s.on=s.on)];have hB1:=hb0.trans (h1.mono hb0.size);have xa0:=hKa.out W1 h1 0 _ rfl;have xb0:=hKb.out W1 h1 0 _ rfl;have xa1:=hKa.out W1 h1 1 _ rfl;have xb1:=hKb.out W1 h1 1 _ rfl;have xa2:=hKa.out W1 h1 2 _ rfl;have xb2:=hKb.out W1 h1 2 _ rfl;have xa3:=hKa.out W1 h1 3 _ rfl;have xb3:=hKb.out W1 h1 3 _ rfl;have xa4:=hKa.out W1 h1 4 _ rfl;have xb4:=hKb.out W1 h1 4 _ rfl;have xa5:=hKa.out W1 h1 5 _ rfl;have xb5:=hKb.out W1 h1 5 _ rfl;have xa6:=hKa.out W1 h1 6 _ rfl;have xb6:=hKb.out W1 h1 6 _ rfl;have aV:=aZ hsz0 (show W0.heap.size≤(World.heap W1).size from lG h1)
 have aW:=aZ hsz1 (show W0.heap.size≤(World.heap W1).size from lG h1)
 go_wp2_with fail;clear xa0 xb0 xa1 xb1 xa2 xb2 xa3 xb3 xa4 xb4 xa5 xb5 xa6 xb6 aV aW;refine (jaL _ _ _ s.holds s.holds (hHa.out _ hB1) (hHb.out _ hB1)).mono ?_
 rintro e W2 ⟨rfl,h2⟩;rw [lg (rfl:s.holds=s.holds)];have h12:=h1.trans (h2.mono h1.size);have hB2:=hb0.trans (h12.mono hb0.size);have xa0:=hKa.out W2 h12 0 _ rfl;have xb0:=hKb.out W2 h12 0 _ rfl;have xa1:=hKa.out W2 h12 1 _ rfl;have xb1:=hKb.out W2 h12 1 _ rfl;have xa2:=hKa.out W2 h12 2 _ rfl;have xb2:=hKb.out W2 h12 2 _ rfl;have xa3:=hKa.out W2 h12 3 _ rfl;have xb3:=hKb.out W2 h12 3 _ rfl;have xa4:=hKa.out W2 h12 4 _ rfl;have xb4:=hKb.out W2 h12 4 _ rfl;have xa5:=hKa.out W2 h12 5 _ rfl;have xb5:=hKb.out W2 h12 5 _ rfl;have xa6:=hKa.out W2 h12 6 _ rfl;have xb6:=hKb.out W2 h12 6 _ rfl;have aV:=aZ hsz0 (show W0.heap.size≤(World.heap W2).size from lG h12)
 have aW:=aZ hsz1 (show W0.heap.size≤(World.heap W2).size from lG h12)
 go_wp2_with fail;clear xa0 xb0 xa1 xb1 xa2 xb2 xa3 xb3 xa4 xb4 xa5 xb5 xa6 xb6 aV aW;refine (I5 _ _ _ s.inn s.inn (hIa.out _ hB2) (hIb.out _ hB2)).mono ?_
 rintro e W3 ⟨rfl,h3⟩;rw [lg (rfl:s.inn=s.inn)];have h13:=h12.trans (h3.mono h12.size);have hB3:=hb0.trans (h13.mono hb0.size);have xa0:=hKa.out W3 h13 0 _ rfl;have xb0:=hKb.out W3 h13 0 _ rfl;have xa1:=hKa.out W3 h13 1 _ rfl;have xb1:=hKb.out W3 h13 1 _ rfl;have xa2:=hKa.out W3 h13 2 _ rfl;have xb2:=hKb.out W3 h13 2 _ rfl;have xa3:=hKa.out W3 h13 3 _ rfl;have xb3:=hKb.out W3 h13 3 _ rfl;have xa4:=hKa.out W3 h13 4 _ rfl;have xb4:=hKb.out W3 h13 4 _ rfl;have xa5:=hKa.out W3 h13 5 _ rfl;have xb5:=hKb.out W3 h13 5 _ rfl;have xa6:=hKa.out W3 h13 6 _ rfl;have xb6:=hKb.out W3 h13 6 _ rfl;have aV:=aZ hsz0 (show W0.heap.size≤(World.heap W3).size from lG h13)
 have aW:=aZ hsz1 (show W0.heap.size≤(World.heap W3).size from lG h13)
 go_wp2_with fail;clear xa0 xb0 xa1 xb1 xa2 xb2 xa3 xb3 xa4 xb4 xa5 xb5 xa6 xb6 aV aW;refine (I5 _ _ _ s.out s.out (hUa.out _ hB3) (hUb.out _ hB3)).mono ?_
 rintro e W4 ⟨rfl,h4⟩;rw [lg (rfl:s.out=s.out)];have U0:=h13.trans (h4.mono h13.size);have hB4:=hb0.trans (U0.mono hb0.size);have xa0:=hKa.out W4 U0 0 _ rfl;have xb0:=hKb.out W4 U0 0 _ rfl;have xa1:=hKa.out W4 U0 1 _ rfl;have xb1:=hKb.out W4 U0 1 _ rfl;have xa2:=hKa.out W4 U0 2 _ rfl;have xb2:=hKb.out W4 U0 2 _ rfl;have xa3:=hKa.out W4 U0 3 _ rfl;have xb3:=hKb.out W4 U0 3 _ rfl;have xa4:=hKa.out W4 U0 4 _ rfl;have xb4:=hKb.out W4 U0 4 _ rfl;have xa5:=hKa.out W4 U0 5 _ rfl;have xb5:=hKb.out W4 U0 5 _ rfl;have xa6:=hKa.out W4 U0 6 _ rfl;have xb6:=hKb.out W4 U0 6 _ rfl;have aV:=aZ hsz0 (show W0.heap.size≤(World.heap W4).size from lG U0)
 have aW:=aZ hsz1 (show W0.heap.size≤(World.heap W4).size from lG U0)
 go_wp2_with fail;clear xa0 xb0 xa1 xb1 xa2 xb2 xa3 xb3 xa4 xb4 xa5 xb5 xa6 xb6 aV aW;refine (I5 _ _ _ s.fixed s.fixed (hXa.out _ hB4) (hXb.out _ hB4)).mono ?_
 rintro e W5 ⟨rfl,h5⟩;rw [lg (rfl:s.fixed=s.fixed)];have h15:=U0.trans (h5.mono U0.size);have hB5:=hb0.trans (h15.mono hb0.size);clear h1 h2 h3 h4 h5 h12 h13 U0 hB1 hB2 hB3 hB4;have xa0:=hKa.out W5 h15 0 _ rfl;have xb0:=hKb.out W5 h15 0 _ rfl;have xa1:=hKa.out W5 h15 1 _ rfl;have xb1:=hKb.out W5 h15 1 _ rfl;have xa2:=hKa.out W5 h15 2 _ rfl;have xb2:=hKb.out W5 h15 2 _ rfl;have xa3:=hKa.out W5 h15 3 _ rfl;have xb3:=hKb.out W5 h15 3 _ rfl;have xa4:=hKa.out W5 h15 4 _ rfl;have xb4:=hKb.out W5 h15 4 _ rfl;have xa5:=hKa.out W5 h15 5 _ rfl;have xb5:=hKb.out W5 h15 5 _ rfl;have xa6:=hKa.out W5 h15 6 _ rfl;have xb6:=hKb.out W5 h15 6 _ rfl;have aV:=aZ hsz0 (show W0.heap.size≤(World.heap W5).size from lG h15)
 have aW:=aZ hsz1 (show W0.heap.size≤(World.heap W5).size from lG h15)
 go_wp2_with fail;go_loopw [5,6,7,8] (fun i _ _ _ wr=>∃ k:Nat,k≤s.orders.length∧i=.int .i64 k∧Below W0.heap.size W0 wr) (fun i _ _ _ _=>s.orders.length - (intOf i).toNat)
 case atStart=>exact ⟨0,aT _,rfl,h15⟩
 case round=>
  clear xa0 xb0 xa1 xb1 xa2 xb2 xa3 xb3 xa4 xb4 xa5 xb5 xa6 xb6 aV aW;clear h15 hB5;obtain ⟨k,hk,rfl,hbw⟩:=hrel;have hB:=hb0.trans (hbw.mono hb0.size);have xa0:=hKa.out wr hbw 0 _ rfl;have xb0:=hKb.out wr hbw 0 _ rfl;have xa1:=hKa.out wr hbw 1 _ rfl;have xb1:=hKb.out wr hbw 1 _ rfl;have xa2:=hKa.out wr hbw 2 _ rfl;have xb2:=hKb.out wr hbw 2 _ rfl;have xa3:=hKa.out wr hbw 3 _ rfl;have xb3:=hKb.out wr hbw 3 _ rfl;have xa4:=hKa.out wr hbw 4 _ rfl;have xb4:=hKb.out wr hbw 4 _ rfl;have xa5:=hKa.out wr hbw 5 _ rfl;have xb5:=hKb.out wr hbw 5 _ rfl;have xa6:=hKa.out wr hbw 6 _ rfl;have xb6:=hKb.out wr hbw 6 _ rfl;have aV:=aZ hsz0 (show W0.heap.size≤(World.heap wr).size from lG hbw)
  have aW:=aZ hsz1 (show W0.heap.size≤(World.heap wr).size from lG hbw)
  by_cases hlt:k<s.orders.length
  ·obtain ⟨A',c',ok1,lA1,e0,e1,hsa⟩:=(hOa.out wr hB).order hlt;obtain ⟨B',d',ok2,lB1,f0,f1,hsb⟩:=(hOb.out wr hB).order hlt;go_wp2_with fail;go_region_held3 (fun w'=>w'.cell? ⟨w.heap.size,1,none⟩=some (.slice A1 s.orders.length c1)∧w'.cell? ⟨w.heap.size+1,1,none⟩=some (.slice B1 s.orders.length d1)∧w'.cell? ⟨dD A1,jy A1+k*2,none⟩=some (.int .i64 (ay s.orders k).kind)∧w'.cell? ⟨dD A1,jy A1+k*2+1,none⟩=some (.slice A' (ay s.orders k).lines.length c')∧
    w'.cell? ⟨dD B1,jy B1+k*2,none⟩=some (.int .i64 (ay s.orders k).kind)∧w'.cell? ⟨dD B1,jy B1+k*2+1,none⟩=some (.slice B' (ay s.orders k).lines.length d')) (first|go_keep) (fail)
   ·generalize hWd:World.drew ((wr.alloc (.cells #[Value.int IntKind.i64 (ay s.orders k).kind,Value.slice A' (ay s.orders k).lines.length c'] 42)).alloc (.cells #[Value.int IntKind.i64 (ay s.orders k).kind,Value.slice B' (ay s.orders k).lines.length d'] 42))=Wd;have hbd:Below wr.heap.size wr Wd:=by rw [← hWd];exact (((aj _ _).alloc (aA _) _).alloc (by simp) _).drew
    have hx:dw Wd wr.heap.size 42 [.int .i64 (ay s.orders k).kind,.slice A' (ay s.orders k).lines.length c']:=by rw [← hWd];exact ((dw.new _ _ _).alloc _).drew
    have hy:dw Wd (wr.heap.size+1) 42 [.int .i64 (ay s.orders k).kind,.slice B' (ay s.orders k).lines.length d']:=by rw [← hWd];exact dw.two _ _ _ _ _
    have hBd:=hB.trans (hbd.mono hB.size);have jgi:=hbw.trans (hbd.mono hbw.size);have hl3:=hsa.len;have jkA:=Lib.hid (fun W (hW:Below wr.heap.size wr W)=>hsa.up hW hW.size)
    have jkz:=Lib.hid (fun W (hW:Below wr.heap.size wr W)=>hsb.up hW hW.size)
    clear hWd ok1 ok2 lA1 lB1 e0 e1 f0 f1 hsa hsb;have hx0:=hx.cell (j:=0) rfl;have hx1:=hx.cell (j:=1) rfl;have hy0:=hy.cell (j:=0) rfl;have hy1:=hy.cell (j:=1) rfl;have hx':=Lib.hid hx;have hy':=Lib.hid hy;have hxl:=hx.lt;have hyl:=hy.lt;clear hx hy;clear xa0 xb0 xa1 xb1 xa2 xb2 xa3 xb3 xa4 xb4 xa5 xb5 xa6 xb6 aV aW;go_wp2_with fail;go_loopw [8] (fun i W=>∃ m:Nat,m≤(ay s.orders k).lines.length∧i=.int .i64 m∧Below Wd.heap.size Wd W) (fun i _=>(ay s.orders k).lines.length - (intOf i).toNat)
    case atStart=>exact ⟨0,aT _,rfl,aj _ _⟩
    case round=>
     clear hx0 hx1 hy0 hy1;obtain ⟨m,hm,rfl,hbi⟩:=hrel;have hx1:=(hx'.out.below hbi hxl).cell (j:=1) rfl;have hy1:=(hy'.out.below hbi hyl).cell (j:=1) rfl;have jpT:=aZ hxl hbi.size;have jpS:=aZ hyl hbi.size;by_cases hml:m<(ay s.orders k).lines.length
     ·have jgt:=hbd.trans (hbi.mono hbd.size);obtain ⟨o1,o2,o3,o4,o5,o6⟩:=(jkA.out _ jgt).at_.line hml;obtain ⟨p1,p2,p3,p4,p5,p6⟩:=(jkz.out _ jgt).at_.line hml;have hql:=jnO.out;have hg1:=hg1'.out;go_wp2_with fail;go_quiet (fail)
      go_wp2_with fail;clear hql hg1;go_roundw
      case rel=>exact ⟨m+1,by omega,by go_num,below_drewN hbi _⟩
      case measure=>simp [intOf];omega
     ·obtain rfl:m=(ay s.orders k).lines.length:=by omega
      go_wp2_with fail;go_roundw
      case rel=>exact ⟨k+1,by omega,by go_num,jgi.trans (hbi.mono jgi.size)⟩
      case measure=>simp [intOf];omega
   ·generalize hWd:World.drew ((wr.alloc (.cells #[Value.int IntKind.i64 (ay s.orders k).kind,Value.slice B' (ay s.orders k).lines.length d'] 42)).alloc (.cells #[Value.int IntKind.i64 (ay s.orders k).kind,Value.slice A' (ay s.orders k).lines.length c'] 42))=Wd;have hbd:Below wr.heap.size wr Wd:=by rw [← hWd];exact (((aj _ _).alloc (aA _) _).alloc (by simp) _).drew
    have hx:dw Wd (wr.heap.size+1) 42 [.int .i64 (ay s.orders k).kind,.slice A' (ay s.orders k).lines.length c']:=by rw [← hWd];exact dw.two _ _ _ _ _
    have hy:dw Wd wr.heap.size 42 [.int .i64 (ay s.orders k).kind,.slice B' (ay s.orders k).lines.length d']:=by rw [← hWd];exact ((dw.new _ _ _).alloc _).drew
    have hBd:=hB.trans (hbd.mono hB.size);have jgi:=hbw.trans (hbd.mono hbw.size);have hl3:=hsa.len;have jkA:=Lib.hid (fun W (hW:Below wr.heap.size wr W)=>hsa.up hW hW.size)
    have jkz:=Lib.hid (fun W (hW:Below wr.heap.size wr W)=>hsb.up hW hW.size)
    clear hWd ok1 ok2 lA1 lB1 e0 e1 f0 f1 hsa hsb;have hx0:=hx.cell (j:=0) rfl;have hx1:=hx.cell (j:=1) rfl;have hy0:=hy.cell (j:=0) rfl;have hy1:=hy.cell (j:=1) rfl;have hx':=Lib.hid hx;have hy':=Lib.hid hy;have hxl:=hx.lt;have hyl:=hy.lt;clear hx hy;clear xa0 xb0 xa1 xb1 xa2 xb2 xa3 xb3 xa4 xb4 xa5 xb5 xa6 xb6 aV aW;go_wp2_with fail;go_loopw [8] (fun i W=>∃ m:Nat,m≤(ay s.orders k).lines.length∧i=.int .i64 m∧Below Wd.heap.size Wd W) (fun i _=>(ay s.orders k).lines.length - (intOf i).toNat)
    case atStart=>exact ⟨0,aT _,rfl,aj _ _⟩
    case round=>
     clear hx0 hx1 hy0 hy1;obtain ⟨m,hm,rfl,hbi⟩:=hrel;have hx1:=(hx'.out.below hbi hxl).cell (j:=1) rfl;have hy1:=(hy'.out.below hbi hyl).cell (j:=1) rfl;have jpT:=aZ hxl hbi.size;have jpS:=aZ hyl hbi.size;by_cases hml:m<(ay s.orders k).lines.length
     ·have jgt:=hbd.trans (hbi.mono hbd.size);obtain ⟨o1,o2,o3,o4,o5,o6⟩:=(jkA.out _ jgt).at_.line hml;obtain ⟨p1,p2,p3,p4,p5,p6⟩:=(jkz.out _ jgt).at_.line hml;have hql:=jnO.out;have hg1:=hg1'.out;go_wp2_with fail;go_quiet (fail)
      go_wp2_with fail;clear hql hg1;go_roundw
      case rel=>exact ⟨m+1,by omega,by go_num,below_drewN hbi _⟩
      case measure=>simp [intOf];omega
     ·obtain rfl:m=(ay s.orders k).lines.length:=by omega
      go_wp2_with fail;go_roundw
      case rel=>exact ⟨k+1,by omega,by go_num,jgi.trans (hbi.mono jgi.size)⟩
      case measure=>simp [intOf];omega
  ·obtain rfl:k=s.orders.length:=by omega
   go_wp2_with fail;go_loopw [9] (fun i wr=>∃ k:Nat,k≤s.moves.length∧i=.int .i64 k∧Below W0.heap.size W0 wr) (fun i _=>s.moves.length - (intOf i).toNat)
   case atStart=>exact ⟨0,aT _,rfl,hbw⟩
   case round=>
    clear xa0 xb0 xa1 xb1 xa2 xb2 xa3 xb3 xa4 xb4 xa5 xb5 xa6 xb6 aV aW;clear hbw hB;obtain ⟨k,hk,rfl,hbw⟩:=hrel;have hB:=hb0.trans (hbw.mono hb0.size);have xa0:=hKa.out wr hbw 0 _ rfl;have xb0:=hKb.out wr hbw 0 _ rfl;have xa1:=hKa.out wr hbw 1 _ rfl;have xb1:=hKb.out wr hbw 1 _ rfl;have xa2:=hKa.out wr hbw 2 _ rfl;have xb2:=hKb.out wr hbw 2 _ rfl;have xa3:=hKa.out wr hbw 3 _ rfl;have xb3:=hKb.out wr hbw 3 _ rfl;have xa4:=hKa.out wr hbw 4 _ rfl;have xb4:=hKb.out wr hbw 4 _ rfl;have xa5:=hKa.out wr hbw 5 _ rfl;have xb5:=hKb.out wr hbw 5 _ rfl;have xa6:=hKa.out wr hbw 6 _ rfl;have xb6:=hKb.out wr hbw 6 _ rfl;have aV:=aZ hsz0 (show W0.heap.size≤(World.heap wr).size from lG hbw)
    have aW:=aZ hsz1 (show W0.heap.size≤(World.heap wr).size from lG hbw)
    by_cases hlt:k<s.moves.length
    ·obtain ⟨o1,o2,o3,o4,o5,o6⟩:=(hMa.out wr hB).at_.move hlt;obtain ⟨p1,p2,p3,p4,p5,p6⟩:=(hMb.out wr hB).at_.move hlt;have hqm:=jqb.out;have hg2:=jqG.out;go_wp2_with fail;go_quiet (fail)
     go_wp2_with fail;clear hqm hg2;go_roundw
     case rel=>exact ⟨k+1,by omega,by go_num,below_drewN hbw _⟩
     case measure=>simp [intOf];omega
    ·obtain rfl:k=s.moves.length:=by omega
     go_wp2_with fail;go_ret
     exact ⟨rfl,hB⟩
end Wh
