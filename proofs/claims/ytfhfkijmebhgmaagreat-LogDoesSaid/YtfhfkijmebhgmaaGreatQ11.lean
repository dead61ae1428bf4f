/- Texts of the claim, joined. -/
import Derived.Lib.SliceRun
import Derived.Deep.RegionLaw
import Derived.Test.YtfhfkijmebhgmaaGreatQ10
set_option maxHeartbeats 20000000
set_option maxRecDepth 100000
namespace Wh
open Go Go.RowKit Go.Shelf Go.Proofs Tryz
attribute [local go_sem] au
theorem Qp (w:World) (v vo:Value) (p:Plan) (on:List (List Int)) (hp:fZ w w.heap.size v p) (ho:xK dY w w.heap.size vo on):
  Calls prog 75 #[v,vo] w fun e w'=>e=.returned (.int .i64 (bW p on))∧Below w.heap.size w w':=by
 have hP:=hp;have hO:=ho;obtain ⟨_,_,rfl,⟨Ab,cb,rfl,hlb,hb⟩,⟨As,cs,rfl,hls,hs⟩⟩:=hp;obtain ⟨A,c,vs,rfl,hl,hvl,hA,hrows⟩:=ho;have hb0:Below w.heap.size w (w.alloc (.cells #[.slice Ab p.aH.length cb,.slice As p.sizes.length cs] 25)):=(aj _ _).alloc (aA _) _;go_enter func75,ntmps75
 go_wp2_with fail;refine (I8 _ _ p (hP.up hb0 hb0.size)).mono ?_
 rintro e W1 ⟨rfl,hb1⟩;have hbw:=hb0.trans (hb1.mono (by simp))
 have hsz:=hb1.size;obtain ⟨hc1,hf1⟩:=nP hb1;by_cases hz:bK p=0
 ·have hz':=qm.1 hz;have hpos:0<p.sizes.length:=hz'.2.1.1;have hcell:W1.cell? ⟨w.heap.size,1,none⟩=some (.slice As p.sizes.length cs):=by rw [hc1 _ _ (by simp)];simp
  by_cases hlen:on.length=p.aH.length
  ·have hle1:=lY hlen;have hle2:=lY hlen.symm;have hlen':=Lib.hid hlen;clear hlen;go_wp2_with fail;refine (OQ _ _ on 127 #[.pointer (some ⟨w.heap.size,0,none⟩)] (fun r=>!rowOk p r) RY (hO.up hbw hbw.size) (fun k _ W hW u hu=>
    jeD p (rowAt on k) W w.heap.size u hpos As cs ((hW.cell (p:=⟨w.heap.size,1,none⟩) (by simp at hsz ⊢;omega)).trans hcell) hu)).mono ?_
   rintro e W2 ⟨rfl,hb2⟩;have hbw2:=hbw.trans (hb2.mono hbw.size);cases hbad:(on.any fun r=>!rowOk p r)
   ·go_wp2_with fail;go_ret
    exact ⟨bT (Gf hz hlen'.out hbad).symm,hbw2⟩
   ·go_wp2_with fail;go_ret
    exact ⟨bT (IG hz hbad).symm,hbw2⟩
  ·have hno:=IE hz hlen;go_wp2_with fail;go_ret
   exact ⟨bT hno.symm,hbw⟩
 ·have hno:=F9 (on:=on) hz;go_wp2_with fail;go_ret
  exact ⟨bT hno.symm,hbw⟩
theorem Yv (w:World) (v vo:Value) (p:Plan) (on:List (List Int)) (hp:fZ w w.heap.size v p) (ho:xK dY w w.heap.size vo on):
  Calls prog 37 #[v,vo] w fun e w'=>e=.returned (.int .i64 (bW p on))∧Below w.heap.size w w':=by
 have hP:=hp;have hO:=ho;obtain ⟨_,_,rfl,⟨Ab,cb,rfl,hlb,hb⟩,⟨As,cs,rfl,hls,hs⟩⟩:=hp;obtain ⟨A,c,vs,rfl,hl,hvl,hA,hrows⟩:=ho;have hb0:Below w.heap.size w (w.alloc (.cells #[.slice Ab p.aH.length cb,.slice As p.sizes.length cs] 25)):=(aj _ _).alloc (aA _) _;go_enter func37,ntmps37
 go_wp2_with fail;refine (jaO _ _ p (hP.up hb0 hb0.size)).mono ?_
 rintro e W1 ⟨rfl,hb1⟩;have hbw:=hb0.trans (hb1.mono (by simp))
 have hsz:=hb1.size;obtain ⟨hc1,hf1⟩:=nP hb1;by_cases hz:bK p=0
 ·have hz':=qm.1 hz;have hpos:0<p.sizes.length:=hz'.2.1.1;by_cases hlen:on.length=p.aH.length
  ·have hle1:=lY hlen;have hle2:=lY hlen.symm;have hlen':=Lib.hid hlen;have hnb:((on.length:Int)!=(p.aH.length:Int))=false:=by rw [hlen];simp
   have hcell0:W1.cell? ⟨w.heap.size,0,none⟩=some (.slice Ab p.aH.length cb):=by rw [hc1 _ _ (by simp)];simp
   have hcell1:W1.cell? ⟨w.heap.size,1,none⟩=some (.slice As p.sizes.length cs):=by rw [hc1 _ _ (by simp)];simp
   have hsz1:w.heap.size<W1.heap.size:=by simp at hsz;omega
   clear hlen hc1 hf1 hsz hb1 hz';have hzz:=Lib.hid hz;go_wp2_with fail;clear hz;go_loopw [6] (fun i wr=>∃ k:Nat,k≤on.length∧i=.int .i64 k∧(∀ j,j<k→rowOk p (rowAt on j)=true)∧Below w.heap.size w wr∧w.heap.size<wr.heap.size∧wr.cell? ⟨w.heap.size,1,none⟩=some (.slice As p.sizes.length cs)) (fun i _=>on.length - (intOf i).toNat)
   case atStart=>exact ⟨0,aT _,rfl,fun j hj=>by omega,hbw,hsz1,hcell1⟩
   case round=>
    obtain ⟨k,hk,rfl,hall,hbr,jnG,hcr⟩:=hrel;by_cases hlt:k<on.length
    ·obtain ⟨A',c',hok,EX,hcu,hsu⟩:=(hO.up hbr hbr.size).row hlt;have hA2:=hsu.at_;by_cases hrl:(rowAt on k).length=p.sizes.length
     ·have hr1:=lY hrl;have hr2:=lY hrl.symm;have jfG:=Lib.hid hrl;have hnr:(((rowAt on k).length:Int)!=(p.sizes.length:Int))=false:=by rw [hrl];simp
      clear hrl;go_wp2_with fail;go_quiet (fail)
      go_wp2_with fail;have hA3:=hA2.up (below_drewN (aj _ _) nq) (aA _);go_loop [7] (fun i=>∃ j:Nat,j≤(rowAt on k).length∧i=.int .i64 j∧(∀ m,m<j→within (aC (rowAt on k) m) 0 200=true)) (fun i=>(rowAt on k).length - (intOf i).toNat)
      case atStart=>exact ⟨0,aT _,rfl,fun j hj=>by omega⟩
      case round=>
       obtain ⟨j,hj,rfl,Zp⟩:=hrel;by_cases hjt:j<(rowAt on k).length
       ·obtain ⟨hok2,Jt,b2⟩:=hA3.int hjt;cases g1:within (aC (rowAt on k) j) 0 200
        ·have hfin:=Lib.hid (IC hzz.out hlt (jaH hjt g1));go_wp2_with (go_at_call 38;refine (iw _ _ _ _).mono ?_;rintro e w' ⟨rfl,rfl⟩)
         go_ret
         exact ⟨bT hfin.out.symm,below_drewN hbr _⟩
        ·go_wp2_with (go_at_call 38;refine (iw _ _ _ _).mono ?_;rintro e w' ⟨rfl,rfl⟩)
         go_round
         case rel=>
          refine ⟨j+1,by omega,by go_num,fun m hm=>?_⟩
          rcases dB.1 hm with h|rfl
          ·exact Zp m h
          ·exact g1
         case measure=>simp [intOf];omega
       ·obtain rfl:j=(rowAt on k).length:=by omega
        have hrow:=Uy jfG.out Zp;go_wp2_with fail;go_roundw
        case rel=>
         refine ⟨k+1,by omega,by go_num,fun m hm=>?_,below_drewN hbr _,jnG,hcr⟩
         rcases dB.1 hm with h|rfl
         ·exact hall m h
         ·exact hrow
        case measure=>simp [intOf];omega
     ·have hno:rowOk p (rowAt on k)=false:=by unfold rowOk;simp [hrl]
      have hfin:=Lib.hid (IC hzz.out hlt hno);go_wp2_with fail;go_quiet (fail)
      go_wp2_with fail;go_ret
      exact ⟨bT hfin.out.symm,below_drewN hbr _⟩
    ·obtain rfl:k=on.length:=by omega
     have hfin:=Lib.hid (II hzz.out hlen'.out hall);go_wp2_with fail;go_ret
     exact ⟨bT hfin.out.symm,hbr⟩
  ·have hno:=IE hz hlen;go_wp2_with fail;go_ret
   exact ⟨bT hno.symm,hbw⟩
 ·have hno:=F9 (on:=on) hz;go_wp2_with fail;go_ret
  exact ⟨bT hno.symm,hbw⟩
end Wh
namespace Wh
open Go Go.RowKit Go.Shelf Go.Proofs Tryz
attribute [local go_sem] au
theorem Nj {p:Plan} {on:List (List Int)} {b g:Int} (h:bW p on≠0):jw p on b g=bW p on:=by
 unfold jw;rw [ak h]
theorem Nh {p:Plan} {on:List (List Int)} {b g:Int} (h:bW p on=0) (h2:(fD p b&&bU p g)=false):jw p on b g=3:=by
 unfold jw;simp [h,h2]
theorem Tz {p:Plan} {on:List (List Int)} {b g:Int} (h:bW p on=0) (h2:(fD p b&&bU p g)=true):jw p on b g=0:=by
 unfold jw;simp [h,h2]
theorem jaE (w:World) (v vo:Value) (p:Plan) (on:List (List Int)) (b g:Int) (hp:fZ w w.heap.size v p) (ho:xK dY w w.heap.size vo on):
  Calls prog 143 #[v,vo,.int .i64 b,.int .i64 g] w fun e w'=>e=.returned (.int .i64 (jw p on b g))∧Below w.heap.size w w':=by
 have hP:=hp;have hO:=ho;obtain ⟨_,_,rfl,⟨Ab,cb,rfl,hlb,hb⟩,⟨As,cs,rfl,hls,hs⟩⟩:=hp;have hb0:Below w.heap.size w (w.alloc (.cells #[.slice Ab p.aH.length cb,.slice As p.sizes.length cs] 25)):=(aj _ _).alloc (aA _) _;go_enter func143,ntmps143
 go_wp2_with fail;refine (Qp _ _ vo p on (hP.up hb0 hb0.size) (hO.up hb0 hb0.size)).mono ?_
 rintro e W1 ⟨rfl,hb1⟩;have hbw:=hb0.trans (hb1.mono (by simp))
 have hsz:=hb1.size;obtain ⟨hc1,hf1⟩:=nP hb1;by_cases hz:bW p on=0
 ·go_wp2_with fail;refine (Dh _ _ p b g (hP.up hbw hbw.size)).mono ?_
  rintro e W2 ⟨rfl,hb2⟩;have hbw2:=hbw.trans (hb2.mono hbw.size);cases ht:(fD p b&&bU p g)
  ·have hfin:=Lib.hid (Nh hz ht);go_wp2_with fail;go_ret
   exact ⟨bT hfin.out.symm,hbw2⟩
  ·have hfin:=Lib.hid (Tz hz ht);go_wp2_with fail;go_ret
   exact ⟨bT hfin.out.symm,hbw2⟩
 ·have hfin:=Lib.hid (Nj (b:=b) (g:=g) hz);go_wp2_with fail;go_ret
  exact ⟨bT hfin.out.symm,hbw⟩
end Wh
namespace Wh
open Go Go.RowKit Go.Shelf Go.Proofs Tryz
attribute [local go_sem] au
theorem jhJ (w:World) (v vo:Value) (p:Plan) (on:List (List Int)) (b:Nat) (hp:fZ w w.heap.size v p) (ho:xK dY w w.heap.size vo on) (hz:bW p on=0) (hbn:b<p.aH.length):
  Calls prog 157 #[v,vo,.int .i64 b] w fun e w'=>e=.returned (.int .i64 (EZ p on b))∧Below w.heap.size w w':=by
 have hP:=hp;have hO:=ho;obtain ⟨_,_,rfl,⟨Ab,cb,rfl,hlb,hb⟩,⟨As,cs,rfl,hls,hs⟩⟩:=hp;obtain ⟨A,c,vs,rfl,hl,hvl,hA,hrows⟩:=ho;have hb0:Below w.heap.size w (w.alloc (.cells #[.slice Ab p.aH.length cb,.slice As p.sizes.length cs] 25)):=(aj _ _).alloc (aA _) _;have hbl:b<on.length:=by rw [I4 hz];exact hbn
 have hcnt:=jC (dM.1 hz).1;have hrow:=IZ hz hbl;have hle:=lY hrow.symm;have hR:=Lib.hid hrow;clear hrow;go_enter func157,ntmps157
 go_wp2_with fail;go_loopw [7,8] (fun n i wr=>∃ k:Nat,k≤p.sizes.length∧i=.int .i64 k∧n=.int .i64 (sumTo (fun g=>cell on b g*aC p.sizes g) k)∧Below w.heap.size w wr∧w.heap.size<wr.heap.size∧wr.cell? ⟨w.heap.size,1,none⟩=some (.slice As p.sizes.length cs)) (fun _ i _=>p.sizes.length - (intOf i).toNat)
 case atStart=>exact ⟨0,aT _,rfl,rfl,hb0,by simp,by simp⟩
 case round=>
  obtain ⟨k,hk,rfl,rfl,hbw,hsz,hc1⟩:=hrel;by_cases hlt:k<p.sizes.length
  ·obtain ⟨A',c',hok,EX,hcu,hsu⟩:=(hO.up hbw hbw.size).row hbl;obtain ⟨hok2,Jt,b2⟩:=hsu.at_.int (i:=k) (by rw [hR.out];exact hlt)
   obtain ⟨hok3,hAb3,b3⟩:=(hs.up hbw hbw.size).int hlt;obtain ⟨u1,u2⟩:=Qh hz hbl hk;have hu2:sumTo (fun g=>cell on b g*aC p.sizes g) k≤9000:=by omega
   obtain ⟨q1,q2⟩:=Qz (xX hz hbl hlt) (pR (dM.1 hz).1 hlt);unfold cell at q1 q2
   clear u2;have hlr:k<(rowAt on b).length:=by omega
   go_wp2_with fail;go_quiet (fail)
   go_wp2_with fail;go_roundw
   case rel=>exact ⟨k+1,by omega,by go_num,rfl,below_drewN hbw _,hsz,hc1⟩
   case measure=>simp [intOf];omega
  ·obtain rfl:k=p.sizes.length:=by omega
   go_wp2_with fail;go_ret
   exact ⟨rfl,hbw⟩
theorem jeS (w:World) (vo:Value) (p:Plan) (on:List (List Int)) (g:Nat) (ho:xK dY w w.heap.size vo on) (hz:bW p on=0) (hgn:g<p.sizes.length):
  Calls prog 91 #[vo,.int .i64 g] w fun e w'=>e=.returned (.int .i64 (sumOf on g))∧w=w':=by
 have hO:=ho;obtain ⟨A,c,vs,rfl,hl,hvl,hA,hrows⟩:=ho;have hcnt:=jC (dM.1 hz).1;have hlen:=I4 hz;have hle:=lY hlen;clear hlen;go_enter func91,ntmps91
 go_wp2_with fail;go_loop [5,6] (fun n i=>∃ k:Nat,k≤on.length∧i=.int .i64 k∧n=.int .i64 (sumTo (fun b=>cell on b g) k)) (fun _ i=>on.length - (intOf i).toNat)
 case atStart=>exact ⟨0,aT _,rfl,rfl⟩
 case round=>
  obtain ⟨k,hk,rfl,rfl⟩:=hrel;by_cases hlt:k<on.length
  ·obtain ⟨A',c',hok,EX,hcu,hsu⟩:=hO.row hlt;have hgr:g<(rowAt on k).length:=by rw [IZ hz hlt];exact hgn
   obtain ⟨hok2,Jt,b2⟩:=hsu.at_.int hgr;obtain ⟨u1,u2⟩:=Um hz hgn hk;have hu2:sumTo (fun b=>cell on b g) k≤9000:=by omega
   obtain ⟨q1,q2⟩:=xX hz hlt hgn;unfold cell at q1 q2
   clear u2;go_wp2_with fail;go_round
   case rel=>exact ⟨k+1,by omega,by go_num,rfl⟩
   case measure=>simp [intOf];omega
  ·obtain rfl:k=on.length:=by omega
   go_wp2_with fail;go_ret
   exact ⟨rfl,rfl⟩
end Wh
namespace Wh
open Go Go.RowKit Go.Shelf Go.Proofs Tryz
attribute [local go_sem] au
theorem jch {p:Plan} {on:List (List Int)} {g:Nat} (h:jw p on 0 g=0):jer p on g=sumOf on g:=by
 unfold jer;rw [ak h,eH]
theorem jhB {p:Plan} {on:List (List Int)} {g:Int} (h:jw p on 0 g≠0):jer p on g=0:=by
 unfold jer;rw [ah h]
theorem jeB (w:World) (v vo:Value) (p:Plan) (on:List (List Int)) (g:Int) (hp:fZ w w.heap.size v p) (ho:xK dY w w.heap.size vo on):
  Calls prog 82 #[v,vo,.int .i64 g] w fun e w'=>e=.returned (.tuple #[.int .i64 (jer p on g),.int .i64 (jw p on 0 g)])∧Below w.heap.size w w':=by
 have hP:=hp;have hO:=ho;obtain ⟨_,_,rfl,⟨Ab,cb,rfl,hlb,hb⟩,⟨As,cs,rfl,hls,hs⟩⟩:=hp;obtain ⟨A,c,vs,rfl,hl,hvl,hA,hrows⟩:=ho;have hb0:Below w.heap.size w (w.alloc (.cells #[.slice Ab p.aH.length cb,.slice As p.sizes.length cs] 25)):=(aj _ _).alloc (aA _) _;go_enter func82,ntmps82
 go_wp2_with fail;refine (jaE _ _ _ p on 0 g (hP.up hb0 hb0.size) (hO.up hb0 hb0.size)).mono ?_
 rintro e W1 ⟨rfl,hb1⟩;have hbw:=hb0.trans (hb1.mono (by simp))
 have hsz:=hb1.size;obtain ⟨hc1,hf1⟩:=nP hb1;by_cases hz:jw p on 0 g=0
 ·obtain ⟨hz1,hz2,hz3⟩:=FZ.1 hz;have hbb:=lM.1 hz3;obtain ⟨g',rfl⟩:∃ n:Nat,g=n:=⟨g.toNat,by omega⟩
  have hgn:g'<p.sizes.length:=by omega
  have hcnt:=jC (dM.1 hz1).1;have hlen:=I4 hz1;have hle:=lY hlen;clear hlen hbb hz2 hz3;have hfin:=Lib.hid (jch hz);have hz':=Lib.hid hz;go_wp2_with fail;clear hz;go_loop [9,21,11] (fun n i _=>∃ k:Nat,k≤on.length∧i=.int .i64 k∧n=.int .i64 (sumTo (fun b=>cell on b g') k)) (fun _ i _=>on.length - (intOf i).toNat)
  case atStart=>exact ⟨0,aT _,rfl,rfl⟩
  case round=>
   obtain ⟨k,hk,rfl,rfl⟩:=hrel;by_cases hlt:k<on.length
   ·obtain ⟨A',c',hok,EX,hcu,hsu⟩:=(hO.up hbw hbw.size).row hlt;have hgr:g'<(rowAt on k).length:=by rw [IZ hz1 hlt];exact hgn
    obtain ⟨hok2,Jt,b2⟩:=hsu.at_.int hgr;obtain ⟨u1,u2⟩:=Um hz1 hgn hk;have hu2:sumTo (fun b=>cell on b g') k≤9000:=by omega
    obtain ⟨q1,q2⟩:=xX hz1 hlt hgn;unfold cell at q1 q2
    clear u2;go_wp2_with fail;go_round
    case rel=>exact ⟨k+1,by omega,by go_num,rfl⟩
    case measure=>simp [intOf];omega
   ·obtain rfl:k=on.length:=by omega
    go_wp2_with fail;go_ret2
    exact ⟨jaI (by rw [hfin.out];rfl) (by rw [hz'.out];rfl),hbw⟩
 ·have hfin:=Lib.hid (jhB hz);have hz':=Lib.hid hz;go_wp2_with fail;go_ret2
  exact ⟨jaI (by rw [hfin.out];rfl) rfl,hbw⟩
end Wh
namespace Wh
open Go Go.RowKit Go.Shelf Go.Proofs Tryz
attribute [local go_sem] au
theorem QW:Elem prog 23 (.slice none 0 0) 1 24:=Af (by kernel_rfl)
theorem MS (w:World) (v:Value) (l:List Int) (hv:Sl dY w w.heap.size v l) (hn:l.length≤1000000):
  Calls prog 113 #[v] w (Gives (fun u w'=>Own dY 1 3 w' w.heap.size u l) w):=by
 obtain ⟨A,c,rfl,hl,hA⟩:=hv;have qT:∀ (w:World) (a:Option Addr) (n c n' c':Nat),(binOp .eql 23 (.slice a n c) (.slice none n' c')).run prog w=.ok (.bool a.isNone) w:=fun w a n c n' c'=>Lib.run_eql_slice_nil w _ _ a n c n' c' underlying23
 cases A with
 |none=>
  have h0:l=[]:=by
   cases l with
   |nil=>rfl
   |cons x r=>exact absurd (hA.ok (by simp [dY])) (by rintro ⟨b,off,h⟩;cases h)
  subst h0;go_enter func113,ntmps113
  go_wp2_with (at_builtin;refine aU ?_)
  go_ret
  exact ⟨_,rfl,Own.nil,aj _ _⟩
 |some ad=>
  go_enter func113,ntmps113
  go_wp2_with (at_builtin;refine aU ?_)
  unfold Hid;refine BF _ rfl (.tmp 5) (.tmp 6) 23 3 rfl w.heap.size _ 1 8 underlying23 Fz rfl (by decide) (by decide) (.slice (some ⟨w.heap.size,0,none⟩) 0 0) ([]:List Int) l rfl (Own.QM w _ (aA _)) (some ad) c w.heap.size rfl (fun _=>rfl)
   (hA.up ((aj _ _).alloc (aA _) _) (aA _)) (fun y=>O4 y) (by simpa using hn) (by simp) ?_
  intro v1 w1 hown1 hg1 Zn xk;go_wp2_with fail;go_ret
  exact ⟨_,rfl,by simpa using hown1,((aj _ _).alloc (aA _) _).trans xk⟩
theorem take_snoc {α:Type} {l:List α} {k:Nat} (h:k<l.length):l.take (k+1)=l.take k++[l[k]]:=by
 rw [l9 h]
theorem VX (v:Value) (h:v.oneCell'=true):∀ u∈(fun x:Value=>[x]) v,u.oneCell'=true:=by simpa using h
theorem jeC (w:World) (v:Value) (on:List (List Int)) (hv:xK dY w w.heap.size v on) (hn:on.length≤1000) (hr:∀ k,k<on.length→0<(rowAt on k).length∧(rowAt on k).length≤1000):
  Calls prog 110 #[v] w (Gives (fun u w'=>∃ gs,jk 23 3 w' w.heap.size u on gs) w):=by
 have hO:=hv;obtain ⟨A,c,vs,rfl,hl,hvl,hA,hrows⟩:=hv;go_enter func110,ntmps110
 go_wp2_with fail;go_loopw [3,5,8] (fun u _ i wr=>∃ (k:Nat) (gs:List Nat),k≤on.length∧i=.int .i64 k∧jk 23 3 wr w.heap.size u (on.take k) gs∧Below w.heap.size w wr) (fun _ _ i _=>on.length - (intOf i).toNat)
 case atStart=>exact ⟨0,[],aT _,rfl,jk.nil,aj _ _⟩
 case round=>
  obtain ⟨k,gs,hk,rfl,hown,hbw⟩:=hrel;by_cases hlt:k<on.length
  ·obtain ⟨A',c',hok,EX,hcu,hsu⟩:=(hO.up hbw hbw.size).row hlt;have hrk:=hr k hlt;go_wp2_with (first|(at_builtin;refine aU ?_)|fail)
   refine (MS _ _ _ hsu (by omega)).mono ?_
   rintro e W1 ⟨u,rfl,hu,hb1⟩;obtain ⟨g,cu,rfl,hgb,hgl⟩:=hu.some_ hrk.1;obtain ⟨vs',hV⟩:=hown;have h1:=hV.1;have h2:=hV.2.1;have hlen:(on.take k).length≤1000:=bJ (PI _ _) (by omega)
   have jM:=hbw.trans (hb1.mono hbw.size);go_wp2_with (first|(at_builtin;refine aU ?_)|fail)
   unfold Hid;refine gK _ rfl (.tmp 12) (.tmp 15) 26 23 rfl w.heap.size _ 1 24 underlying26 QW rfl (by decide) (by decide) u3 vs' (.slice (some ⟨g,0,none⟩) (rowAt on k).length cu) rfl ((h1.below hb1).alloc _) ⟨W1.heap.size,0,none⟩ 1 rfl rfl (cell_one_new _ _ _) (VX _ rfl) (by omega) (by have:=jM.size;simp;omega) ?_
   intro v2 w2 hown2 hg2 jqR jgv;have hpush:=SS.push (by decide) hV (hb1.alloc hb1.size _) hgb ((hu.from_ hbw.size).alloc _) hg2 hown2
   rw [oh hlt,← take_snoc hlt] at hpush
   have hbw2:=(jM.alloc jM.size (.cells #[.slice (some ⟨g,0,none⟩) (rowAt on k).length cu] 23)).trans jgv;go_wp2_with fail;go_roundw
   case rel=>exact ⟨k+1,_,by omega,by go_num,hpush,hbw2⟩
   case measure=>simp [intOf];omega
  ·obtain rfl:k=on.length:=by omega
   rw [jE] at hown
   go_wp2_with fail;go_ret
   exact ⟨_,rfl,⟨gs,hown⟩,hbw⟩
end Wh
namespace Wh
open Go Go.RowKit Go.Shelf Go.Proofs Tryz
attribute [local go_sem] au
theorem RX {α:Type} (enc:α→List Value) (l:List α) (k:Nat):(l.eraseIdx k).flatMap enc=(l.take k).flatMap enc++(l.drop (k+1)).flatMap enc:=by
 rw [Ls,lD]
theorem ou:Elem prog 46 (.agg #[.int .i64 0,.int .i64 0,.int .i64 0,.int .i64 0]) 4 32:=Af (by kernel_rfl)
theorem pG (x:Hold):∀ u∈bM x,u.oneCell'=true:=by simp [bM,Value.oneCell']
theorem EO (w:World) (v:Value) (l:List Hold) (hv:Sl bM w w.heap.size v l) (hn:l.length≤1000000):
  Calls prog 111 #[v] w (Gives (fun u w'=>Own bM 4 46 w' w.heap.size u l) w):=by
 obtain ⟨A,c,rfl,hl,hA⟩:=hv;have qT:∀ (w:World) (a:Option Addr) (n c n' c':Nat),(binOp .eql 28 (.slice a n c) (.slice none n' c')).run prog w=.ok (.bool a.isNone) w:=fun w a n c n' c'=>Lib.run_eql_slice_nil w _ _ a n c n' c' underlying28
 cases A with
 |none=>
  have h0:l=[]:=by
   cases l with
   |nil=>rfl
   |cons x r=>exact absurd (hA.ok (by simp [bM])) (by rintro ⟨b,off,h⟩;cases h)
  subst h0;go_enter func111,ntmps111
  go_wp2_with (at_builtin;refine aU ?_)
  go_ret
  exact ⟨_,rfl,Own.nil,aj _ _⟩
 |some ad=>
  go_enter func111,ntmps111
  go_wp2_with (at_builtin;refine aU ?_)
  unfold Hid;refine BF _ rfl (.tmp 5) (.tmp 6) 28 46 rfl w.heap.size _ 4 32 underlying28 ou rfl (by decide) (by decide) (.slice (some ⟨w.heap.size,0,none⟩) 0 0) ([]:List Hold) l rfl (Own.QM w _ (aA _)) (some ad) c w.heap.size rfl (fun _=>rfl)
   (hA.up ((aj _ _).alloc (aA _) _) (aA _)) (fun y=>pG y) (by simpa using hn) (by simp) ?_
  intro v1 w1 hown1 hg1 Zn xk;go_wp2_with fail;go_ret
  exact ⟨_,rfl,by simpa using hown1,((aj _ _).alloc (aA _) _).trans xk⟩
theorem X0 (w:World):(zeroValue 46).run prog w=.ok (.agg #[.int .i64 0,.int .i64 0,.int .i64 0,.int .i64 0]) w:=by kernel_rfl
theorem jiP (w:World) (base:Nat) (v:Value) (l:List Hold) (k:Nat) (hown:Own bM 4 46 w base v l) (hk:k<l.length) (hn:l.length≤1000000):
  Calls prog 155 #[v,.int .i64 k,.int .i64 ((k:Int)+1)] w fun e w'=>
   ∃ v',e=.returned v'∧Own bM 4 46 w' base v' (l.eraseIdx k)∧w.grownBy w' v.ownBlock∧v'.ownBlock=v.ownBlock:=by
 obtain ⟨g,cap,cur,rfl,hbg,hg,hlc,hcm,hcs,htake⟩:=hown.row (by omega)
 obtain ⟨i0,hi0,hz0,hsz0,jgg⟩:=ou;have hk4:∀ x,(bM x).length=4:=fun _=>rfl
 obtain ⟨cs,Rl⟩:∃ cs,cs=(l.drop (k+1)).flatMap bM:=⟨_,rfl⟩;have hcl:cs.length=(l.length - (k+1))*4:=by rw [Rl,flat_length bM 4 hk4,jT]
 have hc1:∀ u∈cs,u.oneCell'=true:=fun u hu=>by
  rw [Rl] at hu
  obtain ⟨y,_,hy⟩:=Bj.1 hu;exact pG y u hy
 obtain ⟨A,hA,hsrc⟩:∃ A:Addr,(if cap=k+1 then some (⟨g,0,none⟩:Addr) else some ⟨g,(k+1)*4,none⟩)=some A∧Hid (∀ j u,cs[j]?=some u→w.drew.cell? (A.add j)=some u):=by
  by_cases h:cap=k+1
  ·refine ⟨⟨g,0,none⟩,by rw [ak h],fun j u hj=>?_⟩
   have:=(lC.1 hj).1
   omega
  ·refine ⟨⟨g,(k+1)*4,none⟩,by rw [ah h],fun j u hj=>?_⟩
   rw [jq];refine hg.drew.cell ?_
   have hjl:=(lC.1 hj).1
   have e1:(cur.take (l.length*4))[(k+1)*4+j]?=some u:=by
    rw [htake,← rP,AL bM 4 hk4,← Rl]
    exact hj
   rw [nI] at e1
   split at e1
   ·exact e1
   ·cases e1
 have hzl:∀ n,(Builtin.zeroCells #[.int .i64 0,.int .i64 0,.int .i64 0,.int .i64 0] n).toList.length=n*4:=fun n=>by rw [Bv];exact nR _ n
 have hcur:l.length*4≤cur.length:=by rw [hcs];exact AZ _ hlc
 have hrun:∀ ty,(Builtin.append_ #[28,28] ty #[.slice (some ⟨g,0,none⟩) k cap,.slice (some A) (l.length - (k+1)) (cap - (k+1))]).run prog w.drew=
   .ok (.slice (some ⟨g,0,none⟩) (k+(l.length - (k+1))) cap) (w.drew.setRow g (spl cur (k*4) cs).toArray):=fun ty=>by
  have h:=G9 (P:=prog) w.drew 28 ty 46 i0 underlying28 hi0 g k cap (.slice (some A) (l.length - (k+1)) (cap - (k+1))) (l.length - (k+1)) cs cur hg.drew rfl
   (by rw [hsz0];exact Gj w.drew 4 _ A _ _ cs hcl hsrc.out) (by omega) (by rw [hsz0,hcl];omega) hc1
  rw [hsz0] at h
  exact h
 obtain ⟨W1,hW1⟩:∃ W1,W1=w.drew.setRow g (spl cur (k*4) cs).toArray:=⟨_,rfl⟩;rw [← hW1] at hrun
 have hg1:dw W1 g 46 (spl cur (k*4) cs):=by rw [hW1];exact hg.drew.row _
 have hl1:(spl cur (k*4) cs).length=cur.length:=pO (by rw [hcl];omega)
 have jgf:∀ ty,(Builtin.clear_ #[28] ty #[.slice (some ⟨g,(k+(l.length - (k+1)))*4,none⟩) (l.length - (k+(l.length - (k+1)))) (cap - (k+(l.length - (k+1))))]).run prog W1=
   .ok (.tuple #[]) (W1.setRow g (spl (spl cur (k*4) cs) ((k+(l.length - (k+1)))*4) (Builtin.zeroCells #[.int .i64 0,.int .i64 0,.int .i64 0,.int .i64 0] (l.length - (k+(l.length - (k+1))))).toList).toArray):=fun ty=>
  DK (P:=prog) W1 28 46 ty _ underlying28 X0 (by simp [Value.cells,Value.oneCell']) g _ _ _ _ hg1 (by omega) (by rw [hl1];simp [Value.cells];omega)
 have hfin:∃ Xc,dw (W1.setRow g (spl (spl cur (k*4) cs) ((k+(l.length - (k+1)))*4) (Builtin.zeroCells #[.int .i64 0,.int .i64 0,.int .i64 0,.int .i64 0] (l.length - (k+(l.length - (k+1))))).toList).toArray) g 46 Xc∧Xc.length=cap*4∧Xc.take ((l.eraseIdx k).length*4)=(l.eraseIdx k).flatMap bM:=by
  refine ⟨_,hg1.row _,?_,?_⟩
  ·rw [pO (by rw [hl1,hzl];omega),hl1,hcs]
  ·have e1:(l.eraseIdx k).length*4=(k+(l.length - (k+1)))*4:=by rw [Gw,ak hk];omega
   rw [e1,VD (by rw [hl1];omega)]
   have e2:(k+(l.length - (k+1)))*4=k*4+cs.length:=by rw [hcl,nG]
   rw [e2,VE (by omega),RX,Rl]
   congr 1
   have e3:cur.take (k*4)=(cur.take (l.length*4)).take (k*4):=by rw [yP,pW (by omega)]
   rw [e3,htake,yB bM 4 hk4]
 have hgr:w.grownBy (W1.setRow g (spl (spl cur (k*4) cs) ((k+(l.length - (k+1)))*4) (Builtin.zeroCells #[.int .i64 0,.int .i64 0,.int .i64 0,.int .i64 0] (l.length - (k+(l.length - (k+1))))).toList).toArray) (some g):=by
  rw [hW1];have g1:=rE w.drew g (spl cur (k*4) cs).toArray;have g2:=rE (w.drew.setRow g (spl cur (k*4) cs).toArray) g (spl (spl cur (k*4) cs) ((k+(l.length - (k+1)))*4) (Builtin.zeroCells #[.int .i64 0,.int .i64 0,.int .i64 0,.int .i64 0] (l.length - (k+(l.length - (k+1))))).toList).toArray;exact ⟨g2.os.trans g1.os,g2.tape.trans g1.tape,g2.output.trans g1.output,bJ g1.size g2.size,fun q hq hne=>(g2.block q (aZ hq g1.size) hne).trans (g1.block q hq hne)⟩
 obtain ⟨W2,hW2⟩:∃ W2,W2=W1.setRow g (spl (spl cur (k*4) cs) ((k+(l.length - (k+1)))*4) (Builtin.zeroCells #[.int .i64 0,.int .i64 0,.int .i64 0,.int .i64 0] (l.length - (k+(l.length - (k+1))))).toList).toArray:=⟨_,rfl⟩;rw [← hW2] at jgf hfin hgr
 have hlen2:(l.eraseIdx k).length=k+(l.length - (k+1)):=by rw [Gw,ak hk];omega
 have zy:=Lib.hid hfin;have jk1:=Lib.hid hgr;have Rf:=Lib.hid hlen2;have hw1:IntKind.i64.wrap ((k:Int)+1)=(k:Int)+1:=by rw [qU];omega
 have hkc:k≤cap:=by omega
 have jqu:k+1≤cap:=by omega
 have hcm':cap≤9223372036854775807:=by unfold maxLen at hcm;omega
 have jk8:=Lib.hid hcm;have jkT:=Lib.hid hlc;have hkne:¬ ((k:Int)=(k:Int)+1):=by omega
 have hb1:(0:Int)≤(k:Int)+1:=by omega
 have hb2:(k:Int)+1≤(l.length:Int):=by omega
 have hb3:(k:Int)≤(l.length:Int):=by omega
 have htn:((k:Int)+1).toNat=k+1:=by omega
 have hl2:k+(l.length - (k+1))<l.length:=by omega
 have hl3:¬ (cap=k+(l.length - (k+1))):=by omega
 clear Rl hcm hi0 hg hcl hW1 hW2 hg1 hl1 hfin hgr hlen2 hcs htake hcur hc1;go_enter func155,ntmps155
 go_wp2_with fail;go_region_law (refine jv _ rfl (.tmp 22) (.tmp 25) 28 28 rfl (.slice (some ⟨g,0,none⟩) k cap) (.slice (some A) (l.length - (k+1)) (cap - (k+1))) (by simp [Act.eval,Act.put]) (by simp [Act.eval,Act.put]) (hrun _) ?_)
 go_wp2_with fail;go_ret
 obtain ⟨Xc,c1,c2,c3⟩:=zy.out;refine ⟨_,rfl,?_,jk1.out,rfl⟩
 rw [← Rf.out];exact Own.Hg hk4 hbg c1 (by rw [Rf.out];have:=jkT.out;omega) jk8.out c2 c3
theorem EC:Elem prog 48 (.agg #[.int .i64 0,.int .i64 0,.int .i64 0,.int .i64 0]) 4 32:=Af (by kernel_rfl)
theorem Ja (x:Move):∀ u∈gV x,u.oneCell'=true:=by simp [gV,Value.oneCell']
theorem jd6 (w:World) (v:Value) (l:List Move) (hv:Sl gV w w.heap.size v l) (hn:l.length≤1000000):
  Calls prog 112 #[v] w (Gives (fun u w'=>Own gV 4 48 w' w.heap.size u l) w):=by
 obtain ⟨A,c,rfl,hl,hA⟩:=hv;have qT:∀ (w:World) (a:Option Addr) (n c n' c':Nat),(binOp .eql 29 (.slice a n c) (.slice none n' c')).run prog w=.ok (.bool a.isNone) w:=fun w a n c n' c'=>Lib.run_eql_slice_nil w _ _ a n c n' c' underlying29
 cases A with
 |none=>
  have h0:l=[]:=by
   cases l with
   |nil=>rfl
   |cons x r=>exact absurd (hA.ok (by simp [gV])) (by rintro ⟨b,off,h⟩;cases h)
  subst h0;go_enter func112,ntmps112
  go_wp2_with (at_builtin;refine aU ?_)
  go_ret
  exact ⟨_,rfl,Own.nil,aj _ _⟩
 |some ad=>
  go_enter func112,ntmps112
  go_wp2_with (at_builtin;refine aU ?_)
  unfold Hid;refine BF _ rfl (.tmp 5) (.tmp 6) 29 48 rfl w.heap.size _ 4 32 underlying29 EC rfl (by decide) (by decide) (.slice (some ⟨w.heap.size,0,none⟩) 0 0) ([]:List Move) l rfl (Own.QM w _ (aA _)) (some ad) c w.heap.size rfl (fun _=>rfl)
   (hA.up ((aj _ _).alloc (aA _) _) (aA _)) (fun y=>Ja y) (by simpa using hn) (by simp) ?_
  intro v1 w1 hown1 hg1 Zn xk;go_wp2_with fail;go_ret
  exact ⟨_,rfl,by simpa using hown1,((aj _ _).alloc (aA _) _).trans xk⟩
theorem XZ (w:World):(zeroValue 48).run prog w=.ok (.agg #[.int .i64 0,.int .i64 0,.int .i64 0,.int .i64 0]) w:=by kernel_rfl
theorem jiO (w:World) (base:Nat) (v:Value) (l:List Move) (k:Nat) (hown:Own gV 4 48 w base v l) (hk:k<l.length) (hn:l.length≤1000000):
  Calls prog 105 #[v,.int .i64 k,.int .i64 ((k:Int)+1)] w fun e w'=>
   ∃ v',e=.returned v'∧Own gV 4 48 w' base v' (l.eraseIdx k)∧w.grownBy w' v.ownBlock∧v'.ownBlock=v.ownBlock:=by
 obtain ⟨g,cap,cur,rfl,hbg,hg,hlc,hcm,hcs,htake⟩:=hown.row (by omega)
 obtain ⟨i0,hi0,hz0,hsz0,jgg⟩:=EC;have hk4:∀ x,(gV x).length=4:=fun _=>rfl
 obtain ⟨cs,Rl⟩:∃ cs,cs=(l.drop (k+1)).flatMap gV:=⟨_,rfl⟩;have hcl:cs.length=(l.length - (k+1))*4:=by rw [Rl,flat_length gV 4 hk4,jT]
 have hc1:∀ u∈cs,u.oneCell'=true:=fun u hu=>by
  rw [Rl] at hu
  obtain ⟨y,_,hy⟩:=Bj.1 hu;exact Ja y u hy
 obtain ⟨A,hA,hsrc⟩:∃ A:Addr,(if cap=k+1 then some (⟨g,0,none⟩:Addr) else some ⟨g,(k+1)*4,none⟩)=some A∧Hid (∀ j u,cs[j]?=some u→w.drew.cell? (A.add j)=some u):=by
  by_cases h:cap=k+1
  ·refine ⟨⟨g,0,none⟩,by rw [ak h],fun j u hj=>?_⟩
   have:=(lC.1 hj).1
   omega
  ·refine ⟨⟨g,(k+1)*4,none⟩,by rw [ah h],fun j u hj=>?_⟩
   rw [jq];refine hg.drew.cell ?_
   have hjl:=(lC.1 hj).1
   have e1:(cur.take (l.length*4))[(k+1)*4+j]?=some u:=by
    rw [htake,← rP,AL gV 4 hk4,← Rl]
    exact hj
   rw [nI] at e1
   split at e1
   ·exact e1
   ·cases e1
 have hzl:∀ n,(Builtin.zeroCells #[.int .i64 0,.int .i64 0,.int .i64 0,.int .i64 0] n).toList.length=n*4:=fun n=>by rw [Bv];exact nR _ n
 have hcur:l.length*4≤cur.length:=by rw [hcs];exact AZ _ hlc
 have hrun:∀ ty,(Builtin.append_ #[29,29] ty #[.slice (some ⟨g,0,none⟩) k cap,.slice (some A) (l.length - (k+1)) (cap - (k+1))]).run prog w.drew=
   .ok (.slice (some ⟨g,0,none⟩) (k+(l.length - (k+1))) cap) (w.drew.setRow g (spl cur (k*4) cs).toArray):=fun ty=>by
  have h:=G9 (P:=prog) w.drew 29 ty 48 i0 underlying29 hi0 g k cap (.slice (some A) (l.length - (k+1)) (cap - (k+1))) (l.length - (k+1)) cs cur hg.drew rfl
   (by rw [hsz0];exact Gj w.drew 4 _ A _ _ cs hcl hsrc.out) (by omega) (by rw [hsz0,hcl];omega) hc1
  rw [hsz0] at h
  exact h
 obtain ⟨W1,hW1⟩:∃ W1,W1=w.drew.setRow g (spl cur (k*4) cs).toArray:=⟨_,rfl⟩;rw [← hW1] at hrun
 have hg1:dw W1 g 48 (spl cur (k*4) cs):=by rw [hW1];exact hg.drew.row _
 have hl1:(spl cur (k*4) cs).length=cur.length:=pO (by rw [hcl];omega)
 have jgf:∀ ty,(Builtin.clear_ #[29] ty #[.slice (some ⟨g,(k+(l.length - (k+1)))*4,none⟩) (l.length - (k+(l.length - (k+1)))) (cap - (k+(l.length - (k+1))))]).run prog W1=
   .ok (.tuple #[]) (W1.setRow g (spl (spl cur (k*4) cs) ((k+(l.length - (k+1)))*4) (Builtin.zeroCells #[.int .i64 0,.int .i64 0,.int .i64 0,.int .i64 0] (l.length - (k+(l.length - (k+1))))).toList).toArray):=fun ty=>
  DK (P:=prog) W1 29 48 ty _ underlying29 XZ (by simp [Value.cells,Value.oneCell']) g _ _ _ _ hg1 (by omega) (by rw [hl1];simp [Value.cells];omega)
 have hfin:∃ Xc,dw (W1.setRow g (spl (spl cur (k*4) cs) ((k+(l.length - (k+1)))*4) (Builtin.zeroCells #[.int .i64 0,.int .i64 0,.int .i64 0,.int .i64 0] (l.length - (k+(l.length - (k+1))))).toList).toArray) g 48 Xc∧Xc.length=cap*4∧Xc.take ((l.eraseIdx k).length*4)=(l.eraseIdx k).flatMap gV:=by
  refine ⟨_,hg1.row _,?_,?_⟩
  ·rw [pO (by rw [hl1,hzl];omega),hl1,hcs]
  ·have e1:(l.eraseIdx k).length*4=(k+(l.length - (k+1)))*4:=by rw [Gw,ak hk];omega
   rw [e1,VD (by rw [hl1];omega)]
   have e2:(k+(l.length - (k+1)))*4=k*4+cs.length:=by rw [hcl,nG]
   rw [e2,VE (by omega),RX,Rl]
   congr 1
   have e3:cur.take (k*4)=(cur.take (l.length*4)).take (k*4):=by rw [yP,pW (by omega)]
   rw [e3,htake,yB gV 4 hk4]
 have hgr:w.grownBy (W1.setRow g (spl (spl cur (k*4) cs) ((k+(l.length - (k+1)))*4) (Builtin.zeroCells #[.int .i64 0,.int .i64 0,.int .i64 0,.int .i64 0] (l.length - (k+(l.length - (k+1))))).toList).toArray) (some g):=by
  rw [hW1];have g1:=rE w.drew g (spl cur (k*4) cs).toArray;have g2:=rE (w.drew.setRow g (spl cur (k*4) cs).toArray) g (spl (spl cur (k*4) cs) ((k+(l.length - (k+1)))*4) (Builtin.zeroCells #[.int .i64 0,.int .i64 0,.int .i64 0,.int .i64 0] (l.length - (k+(l.length - (k+1))))).toList).toArray;exact ⟨g2.os.trans g1.os,g2.tape.trans g1.tape,g2.output.trans g1.output,bJ g1.size g2.size,fun q hq hne=>(g2.block q (aZ hq g1.size) hne).trans (g1.block q hq hne)⟩
 obtain ⟨W2,hW2⟩:∃ W2,W2=W1.setRow g (spl (spl cur (k*4) cs) ((k+(l.length - (k+1)))*4) (Builtin.zeroCells #[.int .i64 0,.int .i64 0,.int .i64 0,.int .i64 0] (l.length - (k+(l.length - (k+1))))).toList).toArray:=⟨_,rfl⟩;rw [← hW2] at jgf hfin hgr
 have hlen2:(l.eraseIdx k).length=k+(l.length - (k+1)):=by rw [Gw,ak hk];omega
 have zy:=Lib.hid hfin;have jk1:=Lib.hid hgr;have Rf:=Lib.hid hlen2;have hw1:IntKind.i64.wrap ((k:Int)+1)=(k:Int)+1:=by rw [qU];omega
 have hkc:k≤cap:=by omega
 have jqu:k+1≤cap:=by omega
 have hcm':cap≤9223372036854775807:=by unfold maxLen at hcm;omega
 have jk8:=Lib.hid hcm;have jkT:=Lib.hid hlc;have hkne:¬ ((k:Int)=(k:Int)+1):=by omega
 have hb1:(0:Int)≤(k:Int)+1:=by omega
 have hb2:(k:Int)+1≤(l.length:Int):=by omega
 have hb3:(k:Int)≤(l.length:Int):=by omega
 have htn:((k:Int)+1).toNat=k+1:=by omega
 have hl2:k+(l.length - (k+1))<l.length:=by omega
 have hl3:¬ (cap=k+(l.length - (k+1))):=by omega
 clear Rl hcm hi0 hg hcl hW1 hW2 hg1 hl1 hfin hgr hlen2 hcs htake hcur hc1;go_enter func105,ntmps105
 go_wp2_with fail;go_region_law (refine jv _ rfl (.tmp 22) (.tmp 25) 29 29 rfl (.slice (some ⟨g,0,none⟩) k cap) (.slice (some A) (l.length - (k+1)) (cap - (k+1))) (by simp [Act.eval,Act.put]) (by simp [Act.eval,Act.put]) (hrun _) ?_)
 go_wp2_with fail;go_ret
 obtain ⟨Xc,c1,c2,c3⟩:=zy.out;refine ⟨_,rfl,?_,jk1.out,rfl⟩
 rw [← Rf.out];exact Own.Hg hk4 hbg c1 (by rw [Rf.out];have:=jkT.out;omega) jk8.out c2 c3
theorem Me:Elem prog 44 (.agg #[.int .i64 0,.int .i64 0,.int .i64 0,.int .i64 0]) 4 32:=Af (by kernel_rfl)
theorem jcs (x:Line):∀ u∈eP x,u.oneCell'=true:=by simp [eP,Value.oneCell']
theorem Vf (w:World) (v:Value) (l:List Line) (hv:Sl eP w w.heap.size v l) (hn:l.length≤1000000):
  Calls prog 98 #[v] w (Gives (fun u w'=>Own eP 4 44 w' w.heap.size u l) w):=by
 obtain ⟨A,c,rfl,hl,hA⟩:=hv;have qT:∀ (w:World) (a:Option Addr) (n c n' c':Nat),(binOp .eql 32 (.slice a n c) (.slice none n' c')).run prog w=.ok (.bool a.isNone) w:=fun w a n c n' c'=>Lib.run_eql_slice_nil w _ _ a n c n' c' underlying32
 cases A with
 |none=>
  have h0:l=[]:=by
   cases l with
   |nil=>rfl
   |cons x r=>exact absurd (hA.ok (by simp [eP])) (by rintro ⟨b,off,h⟩;cases h)
  subst h0;go_enter func98,ntmps98
  go_wp2_with (at_builtin;refine aU ?_)
  go_ret
  exact ⟨_,rfl,Own.nil,aj _ _⟩
 |some ad=>
  go_enter func98,ntmps98
  go_wp2_with (at_builtin;refine aU ?_)
  unfold Hid;refine BF _ rfl (.tmp 5) (.tmp 6) 32 44 rfl w.heap.size _ 4 32 underlying32 Me rfl (by decide) (by decide) (.slice (some ⟨w.heap.size,0,none⟩) 0 0) ([]:List Line) l rfl (Own.QM w _ (aA _)) (some ad) c w.heap.size rfl (fun _=>rfl)
   (hA.up ((aj _ _).alloc (aA _) _) (aA _)) (fun y=>jcs y) (by simpa using hn) (by simp) ?_
  intro v1 w1 hown1 hg1 Zn xk;go_wp2_with fail;go_ret
  exact ⟨_,rfl,by simpa using hown1,((aj _ _).alloc (aA _) _).trans xk⟩
end Wh
namespace Wh
open Go Go.RowKit Go.Shelf Go.Proofs Tryz
attribute [local go_sem] au
theorem jka (w:World) (v:Value) (on:List (List Int)) (hv:xK dY w w.heap.size v on) (hn:on.length≤1000) (hr:∀ k,k<on.length→0<(rowAt on k).length∧(rowAt on k).length≤1000):
  Calls prog 43 #[v] w (Gives (fun u w'=>∃ gs,jk 23 3 w' w.heap.size u on gs) w):=by
 have hO:=hv;obtain ⟨A,c,vs,rfl,hl,hvl,hA,hrows⟩:=hv;go_enter func43,ntmps43
 go_wp2_with fail;go_loopw [3,4] (fun u i wr=>∃ (k:Nat) (gs:List Nat),k≤on.length∧i=.int .i64 k∧jk 23 3 wr w.heap.size u (on.take k) gs∧Below w.heap.size w wr) (fun _ i _=>on.length - (intOf i).toNat)
 case atStart=>exact ⟨0,[],aT _,rfl,jk.nil,aj _ _⟩
 case round=>
  obtain ⟨k,gs,hk,rfl,hown,hbw⟩:=hrel;by_cases hlt:k<on.length
  ·obtain ⟨A',c',hok,EX,hcu,hsu⟩:=(hO.up hbw hbw.size).row hlt;have hrk:=hr k hlt;have hA2:=hsu.at_;obtain ⟨vs',hV⟩:=hown;have h1:=hV.1;have h2:=hV.2.1;have hlen:(on.take k).length≤1000:=bJ (PI _ _) (by omega)
   go_wp2_with (first|(at_builtin;refine aU ?_)|fail)
   unfold Hid;refine BF _ rfl (.tmp 12) (.tmp 16) 23 3 rfl wr.heap.size _ 1 8 underlying23 Fz rfl (by decide) (by decide) (.slice (some ⟨wr.heap.size,0,none⟩) 0 0) ([]:List Int) (rowAt on k) rfl (Own.QM wr _ (aA _)) A' c' wr.heap.size rfl (fun _=>rfl)
    (hA2.up ((aj _ _).alloc (aA _) _) (aA _)) (fun y=>O4 y) (by simp;omega) (by simp) ?_
   intro v1 w1 hown1 hg1 Zn xk;rw [lq] at hown1
   obtain ⟨g,cu,rfl,hgb,hgl⟩:=hown1.some_ hrk.1;have hb1:Below wr.heap.size wr w1:=((aj _ _).alloc (aA _) _).trans xk;have jM:=hbw.trans (hb1.mono hbw.size);go_wp2_with (first|(at_builtin;refine aU ?_)|fail)
   unfold Hid;refine gK _ rfl (.tmp 11) (.tmp 18) 26 23 rfl w.heap.size _ 1 24 underlying26 QW rfl (by decide) (by decide) u3 vs' (.slice (some ⟨g,0,none⟩) (rowAt on k).length cu) rfl ((h1.below hb1).alloc _) ⟨w1.heap.size,0,none⟩ 1 rfl rfl (cell_one_new _ _ _) (VX _ rfl) (by omega) (by have:=jM.size;simp;omega) ?_
   intro v2 w2 hown2 hg2 jqR jgv;have hpush:=SS.push (by decide) hV (hb1.alloc hb1.size _) hgb ((hown1.from_ hbw.size).alloc _) hg2 hown2
   rw [oh hlt,← take_snoc hlt] at hpush
   have hbw2:=(jM.alloc jM.size (.cells #[.slice (some ⟨g,0,none⟩) (rowAt on k).length cu] 23)).trans jgv;go_wp2_with fail;go_roundw
   case rel=>exact ⟨k+1,_,by omega,by go_num,hpush,hbw2⟩
   case measure=>simp [intOf];omega
  ·obtain rfl:k=on.length:=by omega
   rw [jE] at hown
   go_wp2_with fail;go_ret
   exact ⟨_,rfl,⟨gs,hown⟩,hbw⟩
end Wh
