/- Texts of the claim, joined. -/
import Derived.Deep.OwnRows
import Derived.Test.YtfhfkijmebhgmaaGreatQ15
import Derived.Test.YtfhfkijmebhgmaaGreatQ16
import Derived.Test.YtfhfkijmebhgmaaGreatQ03
set_option maxHeartbeats 20000000
set_option maxRecDepth 100000
namespace Wh
open Go Go.RowKit Go.Shelf Go.Proofs Tryz
attribute [local go_sem] au
theorem Jd {s:State} (h:4<s.orders.length∨8<s.moves.length∨(s.orders.any fun o=>!within o.lines.length 1 3)=true):BX s=false:=by
 cases hm:BX s
 ·rfl
 ·obtain ⟨h1,h2,h3⟩:=sF.1 hm;rcases h with h|h|h
  ·omega
  ·omega
  ·rw [xE,h3] at h
   cases h
theorem jfc {s:State} (h1:s.orders.length≤4) (h2:s.moves.length≤8) (h3:(s.orders.any fun o=>!within o.lines.length 1 3)=false):BX s=true:=by
 refine sF.2 ⟨h1,h2,?_⟩
 rw [xE] at h3
 simpa using h3
theorem QL {s:State} (h:BX s=true):∀ o,o<s.orders.length→(ay s.orders o).lines.length≤1000:=fun o ho=>by
 have:=within_iff.1 (kY yC (sF.1 h).2.2 ho);unfold ay;omega
theorem G8 (w:World) (v vs:Value) (p:Plan) (s:State) (hp:fZ w w.heap.size v p) (hv:fE w w.heap.size vs s):
  Calls prog 23 #[v,vs] w fun e w'=>e=.returned (.int .i64 (checkState p s))∧Below w.heap.size w w':=by
 obtain ⟨Ab,cb,As,cs,rfl,hP',hBn,hSz,hlb,hls⟩:=kN hp;obtain ⟨A0,c0,A1,c1,A2,c2,A3,c3,A4,c4,A5,c5,A6,c6,rfl,hV,hN,hO,hH,hM,hI,hU,hX,hl0,hl1,hl2,hl3,hl4,hl5,CW⟩:=iG hv;go_enter func23,ntmps23
 go_wp2_with fail;obtain ⟨W0,hW0,hb0,hsz0,hsz1,hsE,hK⟩:=uS w p s Ab cb As cs A0 c0 A1 c1 A2 c2 A3 c3 A4 c4 A5 c5 A6 c6;rw [hW0];clear hW0;obtain ⟨⟨y0,y1⟩,x0,x1,x2,x3,x4,x5,x6,aV,aW⟩:=hK.out W0 (aj W0.heap.size W0);go_wp2_with fail;clear y0 y1 x0 x1 x2 x3 x4 x5 x6 aV aW;refine (Qp _ _ _ p s.on (hP'.out _ hb0) (hN.out _ hb0)).mono ?_
 rintro e W1 ⟨rfl,hb1⟩;have hB1:=hb0.trans (hb1.mono hb0.size);obtain ⟨⟨y0,y1⟩,x0,x1,x2,x3,x4,x5,x6,aV,aW⟩:=hK.out W1 (hb1);by_cases hsh:bW p s.on=0
 ·have hsh':=Lib.hid hsh;rw [hsh];clear hsh;by_cases h4:s.orders.length≤4
  ·by_cases h8:s.moves.length≤8
   ·go_wp2_with fail;clear y0 y1 x0 x1 x2 x3 x4 x5 x6 aV aW;refine (MR _ _ s.orders 77 #[] (fun o=>!within o.lines.length 1 3) RZ (hO.out W1 hB1) (fun j _ W hW u hu=>jdg _ u W hu)).mono ?_
    rintro e W2 ⟨rfl,hb2⟩;have xJ:=hb1.trans (hb2.mono hb1.size);have hB2:=hb0.trans (xJ.mono hb0.size);obtain ⟨⟨y0,y1⟩,x0,x1,x2,x3,x4,x5,x6,aV,aW⟩:=hK.out W2 (xJ);cases hany:(s.orders.any fun o=>!within o.lines.length 1 3)
    ·have hmy:=Lib.hid (jfc h4 h8 hany);clear hany;go_wp2_with fail;clear y0 y1 x0 x1 x2 x3 x4 x5 x6 aV aW;refine (jhH _ _ _ p s (hP'.out W2 hB2) (hV.out W2 hB2) (dM.1 hsh'.out).1 h4 (QL hmy.out)).mono ?_
     rintro e W3 ⟨rfl,hb3⟩;have Ie:=xJ.trans (hb3.mono xJ.size);have hB3:=hb0.trans (Ie.mono hb0.size);obtain ⟨⟨y0,y1⟩,x0,x1,x2,x3,x4,x5,x6,aV,aW⟩:=hK.out W3 (Ie);cases hf:formed p s
     ·have hfin:=Lib.hid (F8 hsh'.out hmy.out hf);clear hf;go_wp2_with fail;go_ret
      exact ⟨bT (by rw [hfin.out]),hB3⟩
     ·have hsn:=Lib.hid (iI.mk hsh'.out hmy.out hf);clear hf;go_wp2_with fail;clear y0 y1 x0 x1 x2 x3 x4 x5 x6 aV aW;refine (jhE _ _ _ p s (hP'.out W3 hB3) (hV.out W3 hB3) hsn.out).mono ?_
      rintro e W4 ⟨rfl,hb4⟩;have hB4:=hB3.trans (hb4.mono hB3.size);cases hq:summed p s
      ·have hfin:=Lib.hid (IB hsn.out hq);clear hq;go_wp2_with fail;go_ret
       exact ⟨bT (by rw [hfin.out]),hB4⟩
      ·have hfin:=Lib.hid (D5 hsn.out hq);clear hq;go_wp2_with fail;go_ret
       exact ⟨bT (by rw [hfin.out]),hB4⟩
    ·have hfin:=Lib.hid (o8 hsh'.out (Jd (.inr (.inr hany))));clear hany;go_wp2_with fail;go_ret
     exact ⟨bT (by rw [hfin.out]),hB2⟩
   ·have hfin:=Lib.hid (o8 hsh'.out (Jd (.inr (.inl (by omega)))))
    go_wp2_with fail;go_ret
    exact ⟨bT (by rw [hfin.out]),hB1⟩
  ·have hfin:=Lib.hid (o8 hsh'.out (Jd (.inl (by omega))))
   go_wp2_with fail;go_ret
   exact ⟨bT (by rw [hfin.out]),hB1⟩
 ·have hne:(bW p s.on!=0)=true:=by simpa using hsh
  have hfin:=Lib.hid (EP hsh);clear hsh;go_wp2_with fail;go_ret
  exact ⟨bT (by rw [hfin.out]),hB1⟩
theorem qw (w:World) (v vs:Value) (p:Plan) (s:State) (hp:fZ w w.heap.size v p) (hv:fE w w.heap.size vs s):
  Calls prog 14 #[v,vs] w fun e w'=>e=.returned (.int .i64 (checkState p s))∧Below w.heap.size w w':=by
 obtain ⟨Ab,cb,As,cs,rfl,hP',hBn,hSz,hlb,hls⟩:=kN hp;obtain ⟨A0,c0,A1,c1,A2,c2,A3,c3,A4,c4,A5,c5,A6,c6,rfl,hV,hN,hO,hH,hM,hI,hU,hX,hl0,hl1,hl2,hl3,hl4,hl5,CW⟩:=iG hv;go_enter func14,ntmps14
 go_wp2_with fail;obtain ⟨W0,hW0,hb0,hsz0,hsz1,hsE,hK⟩:=uS w p s Ab cb As cs A0 c0 A1 c1 A2 c2 A3 c3 A4 c4 A5 c5 A6 c6;rw [hW0];clear hW0;obtain ⟨⟨y0,y1⟩,x0,x1,x2,x3,x4,x5,x6,aV,aW⟩:=hK.out W0 (aj W0.heap.size W0);go_wp2_with fail;clear y0 y1 x0 x1 x2 x3 x4 x5 x6 aV aW;refine (Yv _ _ _ p s.on (hP'.out _ hb0) (hN.out _ hb0)).mono ?_
 rintro e W1 ⟨rfl,hb1⟩;have hB1:=hb0.trans (hb1.mono hb0.size);obtain ⟨⟨y0,y1⟩,x0,x1,x2,x3,x4,x5,x6,aV,aW⟩:=hK.out W1 (hb1);by_cases hsh:bW p s.on=0
 ·have hsh':=Lib.hid hsh;rw [hsh];clear hsh;by_cases h4:s.orders.length≤4
  ·by_cases h8:s.moves.length≤8
   ·go_wp2_with fail;go_loopw [6] (fun i wr=>∃ k:Nat,k≤s.orders.length∧i=.int .i64 k∧(∀ j,j<k→within (ay s.orders j).lines.length 1 3=true)∧Below W0.heap.size W0 wr) (fun i _=>s.orders.length - (intOf i).toNat)
    case atStart=>exact ⟨0,aT _,rfl,fun j hj=>by omega,hb1⟩
    case round=>
     clear y0 y1 x0 x1 x2 x3 x4 x5 x6 aV aW;clear hb1 hB1;obtain ⟨k,hk,rfl,hall,hbw⟩:=hrel;have hall':=Lib.hid hall;clear hall;have hB:=hb0.trans (hbw.mono hb0.size);obtain ⟨⟨y0,y1⟩,x0,x1,x2,x3,x4,x5,x6,aV,aW⟩:=hK.out wr (hbw);by_cases hlt:k<s.orders.length
     ·obtain ⟨A',c',hok1,yw,d0,d1,hsl⟩:=(hO.out wr hB).order hlt;cases hwi:within (ay s.orders k).lines.length 1 3
      ·have hfin:=Lib.hid (o8 hsh'.out (Jd (.inr (.inr (by
        rw [uJ];exact ⟨ay s.orders k,by rw [kM hlt];exact eF hlt,by rw [hwi];rfl⟩)))))
       go_wp2_with (go_at_call 38;refine (iw _ _ _ _).mono ?_;rintro e w' ⟨rfl,rfl⟩)
       go_ret
       exact ⟨bT (by rw [hfin.out]),hB⟩
      ·have jpV:=Lib.hid hwi;go_wp2_with (go_at_call 38;refine (iw _ _ _ _).mono ?_;rintro e w' ⟨rfl,rfl⟩)
       go_roundw
       case rel=>
        refine ⟨k+1,by omega,by go_num,fun j hj=>?_,hbw⟩
        rcases dB.1 hj with h|rfl
        ·exact hall'.out j h
        ·exact jpV.out
       case measure=>simp [intOf];omega
     ·obtain rfl:k=s.orders.length:=by omega
      have hmy:=Lib.hid (sF.2 ⟨h4,h8,uo yC hall'.out⟩);clear hall';go_wp2_with fail;clear y0 y1 x0 x1 x2 x3 x4 x5 x6 aV aW;refine (jhM _ _ _ p s (hP'.out wr hB) (hV.out wr hB) (dM.1 hsh'.out).1 h4 h8 (QL hmy.out)).mono ?_
      rintro e W3 ⟨rfl,hb3⟩;have Ie:=hbw.trans (hb3.mono hbw.size);have hB3:=hb0.trans (Ie.mono hb0.size);obtain ⟨⟨y0,y1⟩,x0,x1,x2,x3,x4,x5,x6,aV,aW⟩:=hK.out W3 (Ie);cases hf:formed p s
      ·have hfin:=Lib.hid (F8 hsh'.out hmy.out hf);clear hf;go_wp2_with fail;go_ret
       exact ⟨bT (by rw [hfin.out]),hB3⟩
      ·have hsn:=Lib.hid (iI.mk hsh'.out hmy.out hf);clear hf;go_wp2_with fail;clear y0 y1 x0 x1 x2 x3 x4 x5 x6 aV aW;refine (jhK _ _ _ p s (hP'.out W3 hB3) (hV.out W3 hB3) hsn.out).mono ?_
       rintro e W4 ⟨rfl,hb4⟩;have hB4:=hB3.trans (hb4.mono hB3.size);cases hq:summed p s
       ·have hfin:=Lib.hid (IB hsn.out hq);clear hq;go_wp2_with fail;go_ret
        exact ⟨bT (by rw [hfin.out]),hB4⟩
       ·have hfin:=Lib.hid (D5 hsn.out hq);clear hq;go_wp2_with fail;go_ret
        exact ⟨bT (by rw [hfin.out]),hB4⟩
   ·have hfin:=Lib.hid (o8 hsh'.out (Jd (.inr (.inl (by omega)))))
    go_wp2_with fail;go_ret
    exact ⟨bT (by rw [hfin.out]),hB1⟩
  ·have hfin:=Lib.hid (o8 hsh'.out (Jd (.inl (by omega))))
   go_wp2_with fail;go_ret
   exact ⟨bT (by rw [hfin.out]),hB1⟩
 ·have hne:(bW p s.on!=0)=true:=by simpa using hsh
  have hfin:=Lib.hid (EP hsh);clear hsh;go_wp2_with fail;go_ret
  exact ⟨bT (by rw [hfin.out]),hB1⟩
end Wh
namespace Wh
open Go Go.RowKit Go.Shelf Go.Proofs Tryz
attribute [local go_sem] au
def Cm (p:Plan) (s:State) (b:Int) (k:Nat):Int:=(p.bin b.toNat).room - sumTo (fun g=>(cell s.on b.toNat g+coming s b g)*aC p.sizes g) k
theorem RP (p:Plan) (s:State) (b:Int):Cm p s b p.sizes.length=free p s b:=rfl
theorem ZB (p:Plan) (s:State) (b:Int) (k:Nat):Cm p s b (k+1)=Cm p s b k - (cell s.on b.toNat k+coming s b k)*aC p.sizes k:=by
 unfold Cm;simp only [sumTo];omega
theorem Jb {a b:Int} (ha:0≤a∧a≤1800) (hb:1≤b∧b≤9):0≤a*b∧a*b≤16200:=by
 refine ⟨PY ha.1 (by omega),?_⟩
 calc a*b≤a*9:=Int.mul_le_mul_of_nonneg_left hb.2 ha.1
  _≤16200:=by omega
theorem QC {p:Plan} {s:State} (hs:iI p s) {b:Int} (hb:0≤b∧b<p.aH.length) {k:Nat} (hk:k<p.sizes.length):
  (0≤cell s.on b.toNat k+coming s b k∧cell s.on b.toNat k+coming s b k≤1800)∧(0≤(cell s.on b.toNat k+coming s b k)*aC p.sizes k∧(cell s.on b.toNat k+coming s b k)*aC p.sizes k≤16200):=by
 have h1:=hs.cell (b:=b.toNat) (g:=k) (by omega) hk
 have h2:=nN hs b k;have h3:0≤cell s.on b.toNat k+coming s b k∧cell s.on b.toNat k+coming s b k≤1800:=by omega
 exact ⟨h3,Jb h3 (pR hs.plan hk)⟩
theorem MN {p:Plan} {s:State} (hs:iI p s) {b:Int} (hb:0≤b∧b<p.aH.length) {k:Nat} (hk:k≤p.sizes.length): -48600≤Cm p s b k∧Cm p s b k≤1000:=by
 have h1:=Aq hs.plan (b:=b.toNat) (by omega)
 have h2:=sZ (f:=fun g:Nat=>(cell s.on b.toNat g+coming s b g)*aC p.sizes g) (n:=k) (m:=16200) fun g hg=>(QC hs hb (by omega)).2
 have hc:=hs.counts;unfold Cm Plan.bin;omega
theorem jeQ (w:World) (v vo:Value) (p:Plan) (on:List (List Int)) (b:Int) (hp:fZ w w.heap.size v p) (ho:xK dY w w.heap.size vo on) (hz:bW p on=0) (hb:0≤b∧b<p.aH.length):
  Calls prog 157 #[v,vo,.int .i64 b] w fun e w'=>e=.returned (.int .i64 (EZ p on b.toNat))∧Below w.heap.size w w':=by
 have:=jhJ w v vo p on b.toNat hp ho hz (by omega)
 rwa [show ((b.toNat:Nat):Int)=b by omega] at this
theorem ji9 (w:World) (v:Value) (p:Plan) (s:State) (b g:Int) (hv:fE w w.heap.size v s) (hs:iI p s) (hb:0≤b∧b<p.aH.length) (hg:0≤g∧g<p.sizes.length):
  Calls prog 80 #[v,.int .i64 b,.int .i64 g] w fun e w'=>e=.returned (.int .i64 (fC s b g))∧Below w.heap.size w w':=by
 have hb1:0≤b:=hb.1;have hb2:b<(s.on.length:Int):=by rw [hs.ku];exact hb.2
 have hg1:0≤g:=hg.1;have hbl:b.toNat<s.on.length:=by omega
 have hgl:g.toNat<(rowAt s.on b.toNat).length:=by rw [hs.rowLen (by omega)];omega
 have hg2:g<((rowAt s.on b.toNat).length:Int):=by omega
 have hcr:=hs.cell (b:=b.toNat) (g:=g.toNat) (by omega) (by omega)
 have hbr:=wG hs b g;have pJ:=Lib.hid hs;clear hs hb hg;obtain ⟨A0,c0,A1,c1,A2,c2,A3,c3,A4,c4,A5,c5,A6,c6,rfl,hV,hN,hO,hH,hM,hI,hU,hX,hl0,hl1,hl2,hl3,hl4,hl5,CW⟩:=iG hv;go_enter func80,ntmps80
 go_wp2_with fail;obtain ⟨W0,hW0,hb0,hsz0,hsz1,hsE,hK⟩:=ES w s A0 c0 A1 c1 A2 c2 A3 c3 A4 c4 A5 c5 A6 c6;rw [hW0];clear hW0;obtain ⟨Ar,cr,YF,N8,Ux,hrow⟩:=(hN.out W0 hb0).row hbl;obtain ⟨YE,lr1,KP⟩:=hrow.at_.int hgl;have hcl:aC (rowAt s.on b.toNat) g.toNat=cell s.on b.toNat g.toNat:=rfl;rw [hcl] at KP
 clear hcl;obtain ⟨_,x0,x1,x2,x3,x4,x5,x6,_⟩:=hK.out W0 (aj _ _);have q1:=fun o d os=>aG (w:=W0) (b:=w.heap.size) hsz0 o d os
 have q2:=fun o d os=>aG (w:=W0) (b:=dD A0) N8 o d os
 have q3:=fun o d os=>aG (w:=W0) (b:=dD Ar) lr1 o d os
 have hV2:=Lib.hid (fun d os=>hV.out _ (hb0.trans ((dZ W0 d os).mono hb0.size)))
 have hw1:IntKind.i64.wrap (cell s.on b.toNat g.toNat - bound s b g)=cell s.on b.toNat g.toNat - bound s b g:=bf _ (by omega)
 go_wp2_with fail;refine aJ (by kernel_rfl) (by kernel_rfl) ?_
 repeat (go_big_quiet_step ((go_at_call 62;refine bD (VF _ _ p s _ _ (hV2.out _ _) pJ.out))))
 refine wpQuiet_nil ?_
 intro W2 hw';have hb2:=aI hw';clear hw';go_wp2_with fail;go_ret
 exact ⟨bT rfl,hb0.trans (hb2.mono hb0.size)⟩
theorem Yx (w:World) (v:Value) (p:Plan) (s:State) (b g:Int) (hv:fE w w.heap.size v s) (hs:iI p s) (hb:0≤b∧b<p.aH.length) (hg:0≤g∧g<p.sizes.length):
  Calls prog 109 #[v,.int .i64 b,.int .i64 g] w fun e w'=>e=.returned (.int .i64 (fC s b g))∧Below w.heap.size w w':=by
 have hb1:0≤b:=hb.1;have hb2:b<(s.on.length:Int):=by rw [hs.ku];exact hb.2
 have hg1:0≤g:=hg.1;have hbl:b.toNat<s.on.length:=by omega
 have hgl:g.toNat<(rowAt s.on b.toNat).length:=by rw [hs.rowLen (by omega)];omega
 have hg2:g<((rowAt s.on b.toNat).length:Int):=by omega
 have hcr:=hs.cell (b:=b.toNat) (g:=g.toNat) (by omega) (by omega)
 have hbr:=wG hs b g;have pJ:=Lib.hid hs;clear hs hb hg;obtain ⟨A0,c0,A1,c1,A2,c2,A3,c3,A4,c4,A5,c5,A6,c6,rfl,hV,hN,hO,hH,hM,hI,hU,hX,hl0,hl1,hl2,hl3,hl4,hl5,CW⟩:=iG hv;go_enter func109,ntmps109
 go_wp2_with fail;obtain ⟨W0,hW0,hb0,hsz0,hsz1,hsE,hK⟩:=ES w s A0 c0 A1 c1 A2 c2 A3 c3 A4 c4 A5 c5 A6 c6;rw [hW0];clear hW0;obtain ⟨Ar,cr,YF,N8,Ux,hrow⟩:=(hN.out W0 hb0).row hbl;obtain ⟨YE,lr1,KP⟩:=hrow.at_.int hgl;have hcl:aC (rowAt s.on b.toNat) g.toNat=cell s.on b.toNat g.toNat:=rfl;rw [hcl] at KP
 clear hcl;obtain ⟨_,x0,x1,x2,x3,x4,x5,x6,_⟩:=hK.out W0 (aj _ _);have q1:=fun o d os=>aG (w:=W0) (b:=w.heap.size) hsz0 o d os
 have q2:=fun o d os=>aG (w:=W0) (b:=dD A0) N8 o d os
 have q3:=fun o d os=>aG (w:=W0) (b:=dD Ar) lr1 o d os
 have hV2:=Lib.hid (fun d os=>hV.out _ (hb0.trans ((dZ W0 d os).mono hb0.size)))
 have hw1:IntKind.i64.wrap (cell s.on b.toNat g.toNat - bound s b g)=cell s.on b.toNat g.toNat - bound s b g:=bf _ (by omega)
 go_wp2_with fail;refine aJ (by kernel_rfl) (by kernel_rfl) ?_
 repeat (go_big_quiet_step ((go_at_call 70;refine bD (VN _ _ p s _ _ (hV2.out _ _) pJ.out))))
 refine wpQuiet_nil ?_
 intro W2 hw';have hb2:=aI hw';clear hw';go_wp2_with fail;go_ret
 exact ⟨bT rfl,hb0.trans (hb2.mono hb0.size)⟩
theorem jeI (w:World) (v vs:Value) (p:Plan) (s:State) (b:Int) (hp:fZ w w.heap.size v p) (hv:fE w w.heap.size vs s) (hs:iI p s) (hb:0≤b∧b<p.aH.length):
  Calls prog 93 #[v,vs,.int .i64 b] w fun e w'=>e=.returned (.int .i64 (free p s b))∧Below w.heap.size w w':=by
 have hbb:=Lib.hid hb;have hb1:0≤b:=hb.1;have hb2:b<(s.on.length:Int):=by rw [hs.ku];exact hb.2
 have hb3:b<(p.aH.length:Int):=hb.2;have hbl:b.toNat<s.on.length:=by omega
 have jdK:b.toNat<p.aH.length:=by omega
 have hcnt:=hs.counts;have pJ:=Lib.hid hs;clear hs hb;obtain ⟨Ab,cb,As,cs,rfl,hP',hBn,hSz,hlb,hls⟩:=kN hp;obtain ⟨A0,c0,A1,c1,A2,c2,A3,c3,A4,c4,A5,c5,A6,c6,rfl,hV,hN,hO,hH,hM,hI,hU,hX,hl0,hl1,hl2,hl3,hl4,hl5,CW⟩:=iG hv;obtain ⟨ok0,lk0,k0,k1,k2,k3⟩:=(hBn.out w (aj _ _)).at_.bin jdK;go_enter func93,ntmps93
 go_wp2_with fail;obtain ⟨W0,hW0,hb0,hsz0,hsz1,hsE,hK⟩:=uS w p s Ab cb As cs A0 c0 A1 c1 A2 c2 A3 c3 A4 c4 A5 c5 A6 c6;rw [hW0];clear hW0;obtain ⟨⟨y0,y1⟩,x0,x1,x2,x3,x4,x5,x6,aV,aW⟩:=hK.out W0 (aj W0.heap.size W0);clear k0 k1 k2 k3;go_loopw [7,19,8,9] (fun n i _ _ wr=>∃ k:Nat,k≤p.sizes.length∧i=.int .i64 k∧n=.int .i64 (Cm p s b k)∧Below W0.heap.size W0 wr) (fun _ i _ _ _=>p.sizes.length - (intOf i).toNat)
 case atStart=>exact ⟨0,aT _,rfl,by unfold Cm Plan.bin;simp [sumTo],aj _ _⟩
 case round=>
  clear y0 y1 x0 x1 x2 x3 x4 x5 x6 aV aW;obtain ⟨k,hk,rfl,rfl,hbw⟩:=hrel;have hB:=hb0.trans (hbw.mono hb0.size);obtain ⟨t1,t2⟩:=MN pJ.out hbb.out hk;obtain ⟨⟨y0,y1⟩,x0,x1,x2,x3,x4,x5,x6,aV,aW⟩:=hK.out wr (hbw);by_cases hlt:k<p.sizes.length
  ·have hgl:k<(rowAt s.on b.toNat).length:=by rw [pJ.out.rowLen jdK];exact hlt
   obtain ⟨Ar,cr,YF,N8,Ux,hrow⟩:=(hN.out wr hB).row hbl;obtain ⟨YE,lr1,KP⟩:=hrow.at_.int hgl;obtain ⟨os0,ls0,rs0⟩:=(hSz.out wr hB).at_.int hlt;have hcl:aC (rowAt s.on b.toNat) k=cell s.on b.toNat k:=rfl;rw [hcl] at KP
   clear hcl;obtain ⟨⟨m1,m2⟩,m3,m4⟩:=QC pJ.out hbb.out hlt;have q1:=fun o d os=>aG (w:=wr) (b:=w.heap.size+1) aV o d os
   have q2:=fun o d os=>aG (w:=wr) (b:=dD A0) N8 o d os
   have q3:=fun o d os=>aG (w:=wr) (b:=dD Ar) lr1 o d os
   have hV2:=Lib.hid (fun d os=>hV.out _ (hB.trans ((dZ wr d os).mono hB.size)))
   have hsu:=Lib.hid (ZB p s b k);have hw1:IntKind.i64.wrap (cell s.on b.toNat k+coming s b k)=cell s.on b.toNat k+coming s b k:=bf _ (by omega)
   have hw2:IntKind.i64.wrap ((cell s.on b.toNat k+coming s b k)*aC p.sizes k)=(cell s.on b.toNat k+coming s b k)*aC p.sizes k:=bf _ (by omega)
   have hw3:IntKind.i64.wrap (Cm p s b k - (cell s.on b.toNat k+coming s b k)*aC p.sizes k)=Cm p s b k - (cell s.on b.toNat k+coming s b k)*aC p.sizes k:=bf _ (by omega)
   go_wp2_with fail;refine aJ (by kernel_rfl) (by kernel_rfl) ?_
   repeat (go_big_quiet_step ((go_at_call 94;refine bD (OX _ _ p s _ _ (hV2.out _ _) pJ.out))))
   refine wpQuiet_nil ?_
   intro W2 hw';have hb2:=aI hw';clear hw';clear q1 q2 q3 hw1 hw2 hw3;go_wp2_with fail;go_roundw
   case rel=>exact ⟨k+1,by omega,by go_num,by rw [hsu.out],hbw.trans (hb2.mono hbw.size)⟩
   case measure=>simp [intOf];omega
  ·obtain rfl:k=p.sizes.length:=by omega
   go_wp2_with fail;go_ret
   exact ⟨bT (RP _ _ _),hB⟩
def uY (p:Plan) (s:State) (b:Int) (k:Nat):Int:=(p.bin b.toNat).room - EZ p s.on b.toNat - sumTo (fun g=>coming s b g*aC p.sizes g) k
theorem WT (p:Plan) (s:State) (b:Int) (k:Nat):uY p s b (k+1)=uY p s b k - coming s b k*aC p.sizes k:=by
 unfold uY;simp only [sumTo];omega
theorem jdd (f g:Nat→Int) (n:Nat):sumTo (fun k=>f k+g k) n=sumTo f n+sumTo g n:=by
 induction n with
 |zero=>rfl
 |succ n ih=>simp only [sumTo];rw [ih];omega
theorem ZC (p:Plan) (s:State) (b:Int):uY p s b p.sizes.length=free p s b:=by
 unfold uY free EZ;have:sumTo (fun g=>(cell s.on b.toNat g+coming s b g)*aC p.sizes g) p.sizes.length=sumTo (fun g=>cell s.on b.toNat g*aC p.sizes g) p.sizes.length+sumTo (fun g=>coming s b g*aC p.sizes g) p.sizes.length:=by
  rw [← jdd];exact sumTo_congr fun k _=>GN _ _ _
 rw [this];omega
theorem SB {p:Plan} {s:State} (hs:iI p s) (b:Int) {k:Nat} (hk:k<p.sizes.length):0≤coming s b k*aC p.sizes k∧coming s b k*aC p.sizes k≤16200:=by
 have h2:=nN hs b k;exact Jb (by omega) (pR hs.plan hk)
theorem Uk {p:Plan} {s:State} (hs:iI p s) {b:Nat} (hb:b<p.aH.length):0≤EZ p s.on b∧EZ p s.on b≤5400:=by
 have hc:=hs.counts;have:=Qh hs.shelf (b:=b) (by rw [hs.ku];exact hb) (aA p.sizes.length)
 unfold EZ;omega
theorem TU {p:Plan} {s:State} (hs:iI p s) {b:Int} (hb:0≤b∧b<p.aH.length) {k:Nat} (hk:k≤p.sizes.length): -60000≤uY p s b k∧uY p s b k≤1000:=by
 have h1:=Aq hs.plan (b:=b.toNat) (by omega)
 have h2:=sZ (f:=fun g:Nat=>coming s b g*aC p.sizes g) (n:=k) (m:=16200) fun g hg=>SB hs b (by omega)
 have h3:=Uk hs (b:=b.toNat) (by omega)
 have hc:=hs.counts;unfold uY Plan.bin;omega
theorem VL (w:World) (v vs:Value) (p:Plan) (s:State) (b:Int) (hp:fZ w w.heap.size v p) (hv:fE w w.heap.size vs s) (hs:iI p s) (hb:0≤b∧b<p.aH.length):
  Calls prog 106 #[v,vs,.int .i64 b] w fun e w'=>e=.returned (.int .i64 (free p s b))∧Below w.heap.size w w':=by
 have hbb:=Lib.hid hb;have hb1:0≤b:=hb.1;have hb3:b<(p.aH.length:Int):=hb.2;have jdK:b.toNat<p.aH.length:=by omega
 have hcnt:=hs.counts;obtain ⟨⟨rm1,rm2⟩,_⟩:=Aq hs.plan jdK;obtain ⟨us1,us2⟩:=Uk hs jdK;have pJ:=Lib.hid hs;clear hs hb;obtain ⟨Ab,cb,As,cs,rfl,hP',hBn,hSz,hlb,hls⟩:=kN hp;obtain ⟨A0,c0,A1,c1,A2,c2,A3,c3,A4,c4,A5,c5,A6,c6,rfl,hV,hN,hO,hH,hM,hI,hU,hX,hl0,hl1,hl2,hl3,hl4,hl5,CW⟩:=iG hv;go_enter func106,ntmps106
 go_wp2_with fail;obtain ⟨W0,hW0,hb0,hsz0,hsz1,hsE,hK⟩:=uS w p s Ab cb As cs A0 c0 A1 c1 A2 c2 A3 c3 A4 c4 A5 c5 A6 c6;rw [hW0];clear hW0;obtain ⟨⟨y0,y1⟩,x0,x1,x2,x3,x4,x5,x6,aV,aW⟩:=hK.out W0 (aj W0.heap.size W0);obtain ⟨ok0,lk0,k0,k1,k2,k3⟩:=(hBn.out W0 hb0).at_.bin jdK;clear k0 k2 k3;have q1:=fun o d os=>aG (w:=W0) (b:=w.heap.size) aW o d os
 have q2:=fun o d os=>aG (w:=W0) (b:=w.heap.size+1) aV o d os
 have q3:=fun o d os=>aG (w:=W0) (b:=dD Ab) lk0 o d os
 have hP2:=Lib.hid (fun d os=>hP'.out _ (hb0.trans ((dZ W0 d os).mono hb0.size)))
 have hN2:=Lib.hid (fun d os=>hN.out _ (hb0.trans ((dZ W0 d os).mono hb0.size)))
 have hw1:IntKind.i64.wrap ((fK p.aH b.toNat).room - EZ p s.on b.toNat)=(fK p.aH b.toNat).room - EZ p s.on b.toNat:=bf _ (by omega)
 go_wp2_with fail;refine aJ (by kernel_rfl) (by kernel_rfl) ?_
 repeat (go_big_quiet_step ((go_at_call 157;refine bD (jeQ _ _ _ p s.on b (hP2.out _ _) (hN2.out _ _) pJ.out.shelf hbb.out))))
 refine wpQuiet_nil ?_
 intro W9 hw';have Ci:=aI hw';clear hw';clear q1 q2 q3 hw1;clear y0 y1 x0 x1 x2 x3 x4 x5 x6 aV aW;obtain ⟨⟨y0,y1⟩,x0,x1,x2,x3,x4,x5,x6,aV,aW⟩:=hK.out W9 (Ci);go_wp2_with fail;go_loopw [7,8] (fun n i wr=>∃ k:Nat,k≤p.sizes.length∧i=.int .i64 k∧n=.int .i64 (uY p s b k)∧Below W0.heap.size W0 wr) (fun _ i _=>p.sizes.length - (intOf i).toNat)
 case atStart=>exact ⟨0,aT _,rfl,by unfold uY Plan.bin;simp [sumTo],Ci⟩
 case round=>
  clear y0 y1 x0 x1 x2 x3 x4 x5 x6 aV aW;clear k1;obtain ⟨k,hk,rfl,rfl,hbw⟩:=hrel;have hB:=hb0.trans (hbw.mono hb0.size);obtain ⟨t1,t2⟩:=TU pJ.out hbb.out hk;obtain ⟨⟨y0,y1⟩,x0,x1,x2,x3,x4,x5,x6,aV,aW⟩:=hK.out wr (hbw);by_cases hlt:k<p.sizes.length
  ·obtain ⟨os0,ls0,rs0⟩:=(hSz.out wr hB).at_.int hlt;obtain ⟨m3,m4⟩:=SB pJ.out b hlt;have q0:=fun o d os=>aG (w:=wr) (b:=w.heap.size) aW o d os
   have q1:=fun o d os=>aG (w:=wr) (b:=w.heap.size+1) aV o d os
   have q2:=fun o d os=>aG (w:=wr) (b:=dD As) ls0 o d os
   have hV2:=Lib.hid (fun d os=>hV.out _ (hB.trans ((dZ wr d os).mono hB.size)))
   have hsu:=Lib.hid (WT p s b k);have hw2:IntKind.i64.wrap (coming s b k*aC p.sizes k)=coming s b k*aC p.sizes k:=bf _ (by omega)
   have hw3:IntKind.i64.wrap (uY p s b k - coming s b k*aC p.sizes k)=uY p s b k - coming s b k*aC p.sizes k:=bf _ (by omega)
   go_wp2_with fail;refine aJ (by kernel_rfl) (by kernel_rfl) ?_
   repeat (go_big_quiet_step ((go_at_call 107;refine bD (Fe _ _ p s _ _ (hV2.out _ _) pJ.out))))
   refine wpQuiet_nil ?_
   intro W2 hw';have hb2:=aI hw';clear hw';clear q0 q1 q2 hw2 hw3;go_wp2_with fail;go_roundw
   case rel=>exact ⟨k+1,by omega,by go_num,by rw [hsu.out],hbw.trans (hb2.mono hbw.size)⟩
   case measure=>simp [intOf];omega
  ·obtain rfl:k=p.sizes.length:=by omega
   go_wp2_with fail;go_ret
   exact ⟨bT (ZC _ _ _),hB⟩
end Wh
namespace Wh
open Go Go.RowKit Go.Shelf Go.Proofs Tryz
attribute [local go_sem] au dQ dI dX
def aP:SV:=⟨gJ,gJ,gJ,gJ,gJ,gJ,gJ,[],[]⟩
theorem aO.zero (w:World) (base:Nat):aO w base aP dJ:=
 ⟨Own.nil,rfl,(fun b h=>by cases h),Own.nil,rfl,(fun o h=>by cases h),Own.nil,Own.nil,Own.nil,Own.nil,Own.nil,by unfold um aP;simp [gJ,Value.ownBlock],List.Pairwise.nil⟩
theorem pV (W:World):dN (W.alloc (.cells #[.slice none 0 0,.slice none 0 0,.slice none 0 0,.slice none 0 0,.slice none 0 0,.slice none 0 0,.slice none 0 0] 31)) W.heap.size aP:=dw.new _ _ _
theorem jK {W w3:World} {o:Obj} (hg:(W.alloc o).grownBy w3 (some W.heap.size)):Below W.heap.size W w3:=((aj _ _).alloc (aA _) _).grown hg (by simp) (fun k hk=>by injection hk with hk;omega)
theorem aO.pushRow {w:World} {base:Nat} {V:SV} {s:State} {w1 w2:World} (h:aO w base V s) (hb:Below w.heap.size w w1) {u:Value} {x:List Int} (hu:Own dY 1 3 w1 base u x) (hf:∀ g,u.ownBlock=some g→w.heap.size≤g) (hg:w1.grownBy w2 V.on.ownBlock)
  {v':Value} (hv:Own (fun u:Value=>[u]) 1 23 w2 base v' (V.rows++[u])):aO w2 base {V with on:=v',rows:=V.rows++[u]} {s with on:=s.on++[x]}:=by
 have k:=h.below hb;have hlt:∀ a,a∈V.rows++[V.inn,V.out,V.fixed]→∀ g,a.ownBlock=some g→g<w.heap.size:=by
  intro a ha g hg;rcases qQ.1 ha with ha|ha
  ·obtain ⟨i,hi,rfl⟩:=cZ ha;have hil:i<s.on.length:=by rw [← h.rlen];exact hi
   have e1:V.row i=V.rows[i]:=by unfold SV.row;simp [hi]
   exact ((h.row i hil).size g (by rw [e1];exact hg)).2
  ·simp only [nY,Bh,o9] at ha
   rcases ha with rfl|rfl|rfl
   ·exact (h.inn.size g hg).2
   ·exact (h.out.size g hg).2
   ·exact (h.fixed.size g hg).2
 refine ⟨hv,by simp [h.rlen],fun b hlt=>?_,k.orders.kept hg (k.orders.apart k.on (by decide)),k.llen,fun o ho=>(k.line o ho).kept hg ((k.line o ho).apart k.on (by decide)),
  k.holds.kept hg (k.holds.apart k.on (by decide)),k.moves.kept hg (k.moves.apart k.on (by decide)),k.inn.kept hg (k.inn.apart k.on (by decide)),k.out.kept hg (k.out.apart k.on (by decide)),k.fixed.kept hg (k.fixed.apart k.on (by decide)),?_,k.oQ⟩
 ·have hb':b<s.on.length+1:=by simpa using hlt
  by_cases hlt:b<s.on.length
  ·have e1:SV.row {V with on:=v',rows:=V.rows++[u]} b=V.row b:=by
    unfold SV.row;simp [jm,nZ (show b<V.rows.length by rw [h.rlen];exact hlt)]
   have e2:rowAt (s.on++[x]) b=rowAt s.on b:=by
    unfold rowAt;simp [jm,nZ hlt]
   rw [e1];show Own dY 1 3 w2 base (V.row b) (rowAt (s.on++[x]) b);rw [e2];exact (k.row b hlt).kept hg ((k.row b hlt).apart k.on (by decide))
  ·have hb2:b=s.on.length:=by omega
   have e1:SV.row {V with on:=v',rows:=V.rows++[u]} b=u:=by
    unfold SV.row;rw [hb2,← h.rlen];simp
   have e2:rowAt (s.on++[x]) b=x:=by
    unfold rowAt;rw [hb2];simp
   rw [e1];show Own dY 1 3 w2 base u (rowAt (s.on++[x]) b);rw [e2];exact hu.kept hg (hu.apart k.on (by decide))
 ·show um (V.rows++[u]++[V.inn,V.out,V.fixed]);have ha:=h.apart;unfold um at ha ⊢
  obtain ⟨p1,p2,p3⟩:=yQ.1 ha;rw [jo,yQ];refine ⟨p1,Gt.2 ⟨fun b hb g hg he=>?_,p2⟩,fun a ha b hb g hg he=>?_⟩
  ·have h1:=hlt b (List.mem_append_right _ hb) g he;have h2:=hf g hg;omega
  ·rcases qQ.1 hb with hb|hb
   ·obtain rfl:=pX.1 hb;have h1:=hlt a (List.mem_append_left _ ha) g hg;have h2:=hf g he;omega
   ·exact p3 a ha b hb g hg he
theorem aO.one {w:World} {base:Nat} {V:SV} {s:State} (h:aO w base V s):V.cells.all (fun u=>u.oneCell')=true:=by
 simp [SV.cells,kL h.on,kL h.orders,kL h.holds,kL h.moves,kL h.inn,kL h.out,kL h.fixed]
theorem ja3 (n:Nat):(madeCells #[Value.int .i64 0] n).toList=(List.replicate n (0:Int)).flatMap dY:=by
 induction n with
 |zero=>simp [madeCells]
 |succ n ih=>
  rw [XA,lD,← ih];unfold madeCells;rw [Array.range_succ];simp [dY,Nat.mod_one]
theorem Own.ja2 (w:World) (n:Nat) (hn:n≤1000):Own dY 1 3 (w.alloc (.cells (madeCells #[Value.int .i64 0] n) 3)) w.heap.size (.slice (some ⟨w.heap.size,0,none⟩) n n) (List.replicate n 0):=by
 have:=Own.lit (base:=w.heap.size) (enc:=dY) (size:=1) w 3 (madeCells #[Value.int .i64 0] n) (List.replicate n 0) (aA _) (by simp;omega) (fun _=>rfl) (ja3 n)
 simpa using this
theorem jcm (w:World) (B n cs:Nat) (As:Option Addr) (h1:w.cell? ⟨B,1,none⟩=some (.slice As n cs)) (hn:n≤1000):
  Calls prog 150 #[.pointer (some ⟨B,0,none⟩)] w fun e w'=>∃ A c,e=.returned (.slice A n c)∧Own dY 1 3 w' w.heap.size (.slice A n c) (List.replicate n 0)∧Below w.heap.size w w':=by
 have hmk:=run_make_row' (P:=prog) 23 3 (.int .i64 0) 8 underlying23 (by kernel_rfl) rfl .i64 .i64 n (by omega) (by omega)
 go_enter func150,ntmps150
 go_wp2_with fail;go_ret
 exact ⟨_,_,rfl,Own.ja2 w n hn,(aj _ _).alloc (aA _) _⟩
def Jo (p:Plan) (k:Nat):State:=
 ⟨List.replicate k (List.replicate p.sizes.length 0),[],[],[],List.replicate p.sizes.length 0,List.replicate p.sizes.length 0,List.replicate p.sizes.length 0⟩
theorem Xh (p:Plan) (k:Nat):Jo p (k+1)={Jo p k with on:=(Jo p k).on++[List.replicate p.sizes.length 0]}:=by
 unfold Jo;simp [XA]
theorem aO.begun {w:World} {base:Nat} {vi vu vx:Value} {z:List Int} (h1:Own dY 1 3 w base vi z) (h2:Own dY 1 3 w base vu z) (h3:Own dY 1 3 w base vx z)
  (h12:∀ g,vi.ownBlock=some g→vu.ownBlock≠some g) (h13:∀ g,vi.ownBlock=some g→vx.ownBlock≠some g) (h23:∀ g,vu.ownBlock=some g→vx.ownBlock≠some g):
  aO w base ⟨gJ,gJ,gJ,gJ,vi,vu,vx,[],[]⟩ ⟨[],[],[],[],z,z,z⟩:=
 ⟨Own.nil,rfl,(fun b h=>by cases h),Own.nil,rfl,(fun o h=>by cases h),Own.nil,Own.nil,h1,h2,h3,by
  unfold um;refine Gt.2 ⟨fun b hb=>?_,Gt.2 ⟨fun b hb=>?_,La _ _⟩⟩
  ·simp only [nY,Bh,o9] at hb
   rcases hb with rfl|rfl
   ·exact h12
   ·exact h13
  ·obtain rfl:=pX.1 hb;exact h23,List.Pairwise.nil⟩
theorem jj6 (w:World) (v:Value) (p:Plan) (hp:fZ w w.heap.size v p):
  Calls prog 88 #[v] w fun e w'=>∃ V,e=.returned (.tuple #[V.val,.int .i64 (bK p)])∧aO w' w.heap.size V (if bK p=0 then begin p else dJ)∧Below w.heap.size w w':=by
 have hP:=hp;obtain ⟨_,_,rfl,⟨Ab,cb,rfl,hlb,hb⟩,⟨As,cs,rfl,hls,hs⟩⟩:=hp;have hb0:Below w.heap.size w ((w.alloc (.cells #[.slice Ab p.aH.length cb,.slice As p.sizes.length cs] 25)).alloc (.cells #[.slice none 0 0,.slice none 0 0,.slice none 0 0,.slice none 0 0,.slice none 0 0,.slice none 0 0,.slice none 0 0] 31)):=((aj _ _).alloc (aA _) _).alloc (by simp) _
 have hsz0:w.heap.size+1<((w.alloc (.cells #[.slice Ab p.aH.length cb,.slice As p.sizes.length cs] 25)).alloc (.cells #[.slice none 0 0,.slice none 0 0,.slice none 0 0,.slice none 0 0,.slice none 0 0,.slice none 0 0,.slice none 0 0] 31)).heap.size:=by simp
 have hk0:dw ((w.alloc (.cells #[.slice Ab p.aH.length cb,.slice As p.sizes.length cs] 25)).alloc (.cells #[.slice none 0 0,.slice none 0 0,.slice none 0 0,.slice none 0 0,.slice none 0 0,.slice none 0 0,.slice none 0 0] 31)) w.heap.size 25 [.slice Ab p.aH.length cb,.slice As p.sizes.length cs]:=(dw.new _ _ _).alloc _;have hk1:dN ((w.alloc (.cells #[.slice Ab p.aH.length cb,.slice As p.sizes.length cs] 25)).alloc (.cells #[.slice none 0 0,.slice none 0 0,.slice none 0 0,.slice none 0 0,.slice none 0 0,.slice none 0 0,.slice none 0 0] 31)) (w.heap.size+1) aP:=by
  have:=dw.new (w.alloc (.cells #[.slice Ab p.aH.length cb,.slice As p.sizes.length cs] 25)) 31 #[.slice none 0 0,.slice none 0 0,.slice none 0 0,.slice none 0 0,.slice none 0 0,.slice none 0 0,.slice none 0 0];rw [fP] at this
  exact this
 have hP':=Lib.hid (fun W (hW:Below w.heap.size w W)=>hP.up hW hW.size)
 clear hb hs hP;go_enter func88,ntmps88
 go_wp2_with fail;generalize hW0:(w.alloc (.cells #[.slice Ab p.aH.length cb,.slice As p.sizes.length cs] 25)).alloc _=W0 at hb0 hsz0 hk0 hk1 ⊢
 clear hW0;have hk0':=Lib.hid hk0;have jik:=Lib.hid hk1;clear hk0 hk1;refine (I8 _ _ p (hP'.out _ hb0)).mono ?_
 rintro e W1 ⟨rfl,hb1⟩;have hB1:=hb0.trans (hb1.mono hb0.size);have hz1:=aZ hsz0 hb1.size;have hx1:=jik.out.below hb1 hsz0;by_cases hz:bK p=0
 ·obtain ⟨_,hc6,_,hc3⟩:=jC hz;rw [hz];have hz':=Lib.hid hz;clear hz;have hp1:=(hk0'.out.below hb1 (by omega)).cell (j:=1) rfl
  go_wp2_with fail;refine (jcm W1 w.heap.size _ _ _ hp1 (by omega)).mono ?_
  rintro e W2 ⟨E2,k2,rfl,ho2,hb2⟩;have xJ:=hb1.trans (hb2.mono hb1.size);have hp2:=(hk0'.out.below xJ (by omega)).cell (j:=1) rfl
  clear hp1;go_wp2_with fail;refine (jcm W2 w.heap.size _ _ _ hp2 (by omega)).mono ?_
  rintro e W3 ⟨E3,k3,rfl,ho3,hb3⟩;have Ie:=xJ.trans (hb3.mono xJ.size);have hp3:=(hk0'.out.below Ie (by omega)).cell (j:=1) rfl
  clear hp2;go_wp2_with fail;refine (jcm W3 w.heap.size _ _ _ hp3 (by omega)).mono ?_
  rintro e W4 ⟨E4,k4,rfl,OG,hb4⟩;have WQ:=Ie.trans (hb4.mono Ie.size);clear hp3;have hO:=aO.begun ((ho2.below (hb3.trans (hb4.mono hb3.size))).from_ hb1.size) ((ho3.below hb4).from_ (xJ).size) (OG.from_ Ie.size)
   (fun g h h'=>by have:=(ho2.size g h).2;have:=(ho3.size g h').1;omega) (fun g h h'=>by have:=(ho2.size g h).2;have:=(OG.size g h').1;have:=hb3.size;omega) (fun g h h'=>by have:=(ho3.size g h).2;have:=(OG.size g h').1;omega)
  have hone:=hO.one;have hO':=Lib.hid hO;clear hO ho2 ho3 OG;have hnb:dN (W4.alloc (.cells #[.slice none 0 0,.slice none 0 0,.slice none 0 0,.slice none 0 0,.slice none 0 0,.slice none 0 0,.slice none 0 0] 31)) W4.heap.size aP:=dw.new _ _ _;go_wp2_with (refine aK (.tmp 6) (.tmp 20) aP ⟨gJ,gJ,gJ,gJ,.slice E2 p.sizes.length k2,.slice E3 p.sizes.length k3,.slice E4 p.sizes.length k4,[],[]⟩ rfl hnb rfl hone (fun w5 jjG hg5=>?_);refine aU ?_)
  unfold Hid;have hlb:W0.heap.size≤W4.heap.size:=WQ.size;have jbK:Below W0.heap.size W0 w5:=(WQ.alloc WQ.size _).grown hg5 (by have:=WQ.size;simp;omega) (fun k hk=>by injection hk with hk;omega)
  have hO5:=(hO'.out.alloc (.cells #[.slice none 0 0,.slice none 0 0,.slice none 0 0,.slice none 0 0,.slice none 0 0,.slice none 0 0,.slice none 0 0] 31)).keptBy hg5 hnb.blk (by decide) (by decide) (by decide) (by decide) (by decide) (by decide)
  have joK:=Lib.hid hO5;have jbE:=Lib.hid jjG;have hpl0:=(hk0'.out.below jbK (by omega)).cell (j:=0) rfl
  clear hO5 jjG hO' hnb hg5 hone hb2 hb3 hb4 xJ Ie WQ;generalize W4.heap.size=b at hlb jbE ⊢
  go_wp2_with fail;go_loopw [24] (fun i wr=>∃ (k:Nat) (V:SV),k≤p.aH.length∧i=.int .i64 k∧aO wr W0.heap.size V (Jo p k)∧dN wr b V∧Below W0.heap.size W0 wr) (fun i _=>p.aH.length - (intOf i).toNat)
  case atStart=>exact ⟨0,_,aT _,rfl,joK.out,jbE.out,jbK⟩
  case round=>
   clear hpl0 joK jbE jbK;obtain ⟨k,V,hk,rfl,hOw,hbx,hbw⟩:=hrel;have DX:=Lib.hid hOw;have xg:=Lib.hid hbx;have hB:=hb0.trans (hbw.mono hb0.size);have jgh:=hbx.lt;clear hOw hbx;by_cases hlt:k<p.aH.length
   ·go_wp2_with fail;refine lT 5 [
     fun g _=>g 26=.pointer (some ⟨b,0,none⟩),
     fun g _=>g 27=V.on,
     fun g _=>g 28=.func (.func 150) #[] #[.pointer (some ⟨w.heap.size,0,none⟩)],
     fun g w'=>(fun v w'=>Own dY 1 3 w' wr.heap.size v (List.replicate p.sizes.length 0)) (g 29) w',
     fun g w'=>(fun v w'=>∃ bb u,v=.slice (some ⟨bb,0,none⟩) 1 1∧w'.cell? ⟨bb,0,none⟩=some u∧bb<w'.heap.size∧Own dY 1 3 w' wr.heap.size u (List.replicate p.sizes.length 0)) (g 30) w'] (by kernel_rfl) (by kernel_rfl) rfl (by kernel_rfl) ?_ (fun f w2 hb2 hR=>?_)
    simp only [eY,eG];refine bg.cons (dU.val rfl rfl (fun g w' hb ho hd=>?_)) ?_
    ·have e1:=ho 6 rfl;go_simp
    refine bg.cons (dU.val rfl rfl (fun g w' hb ho hd=>?_)) ?_
    ·have e1:g 26=.pointer (some ⟨b,0,none⟩):=hd ⟨0,.data⟩ (by simp) rfl (by decide)
     have x0:=(xg.out.below hb jgh).cells.1;go_simp
    refine bg.cons (dU.val rfl rfl (fun g w' hb ho hd=>?_)) ?_
    ·have e1:=ho 5 rfl;go_simp
    refine bg.cons (dU.one (d:=29) (p:=(fun v w'=>Own dY 1 3 w' wr.heap.size v (List.replicate p.sizes.length 0))) rfl rfl (fun v w1 w2 h hb=>h.below hb) (fun g w' hb ho hd=>?_)) ?_
    ·have e1:g 28=.func (.func 150) #[] #[.pointer (some ⟨w.heap.size,0,none⟩)]:=hd ⟨2,.data⟩ (by simp) rfl (by decide)
     have hp1:=(hk0'.out.below (hbw.trans (hb.mono hbw.size)) (by omega)).cell (j:=1) rfl
     unfold dO;go_simp
     refine (jcm w' w.heap.size _ _ _ hp1 (by omega)).mono ?_
     rintro e w2 ⟨E,kc,rfl,ho2,hb2⟩;exact ⟨_,rfl,ho2.from_ hb.size,hb2⟩
    refine bg.cons (dU.one (d:=30) (p:=(fun v w'=>∃ bb u,v=.slice (some ⟨bb,0,none⟩) 1 1∧w'.cell? ⟨bb,0,none⟩=some u∧bb<w'.heap.size∧Own dY 1 3 w' wr.heap.size u (List.replicate p.sizes.length 0))) rfl rfl (fun v w1 w2 h hb=>?_) (fun g w' hb ho hd=>?_)) ?_
    ·obtain ⟨bb,u,h1,h2,h3,h4⟩:=h;exact ⟨bb,u,h1,(hb.cell (p:=⟨bb,0,none⟩) h3).trans h2,aZ h3 hb.size,h4.below hb⟩
    ·have e1:Own dY 1 3 w' wr.heap.size (g 29) (List.replicate p.sizes.length 0):=hd ⟨3,.data⟩ (by simp) rfl (by decide)
     obtain ⟨E,kc,e2⟩:=e1.isSlice;have e1':=Lib.hid e1;clear e1;unfold dO;go_simp
     have e3:Own dY 1 3 w' wr.heap.size (.slice E p.sizes.length kc) (List.replicate p.sizes.length 0):=by
      have:=e1'.out;rw [e2] at this
      simpa using this
     exact ⟨e3.alloc _,(aj _ _).alloc (aA _) _⟩
    exact bg.nil;obtain ⟨r0,r1,r2,r3,⟨bb,u,r4,c4,l4,o4⟩,_⟩:=hR;simp only [fU,qZ,eY,eG,lF,mG,mF,mD,jH,mg,iW,iy,iJ,r0,r1,r2,r4];clear r0 r1 r2 r3 r4;have jiD:=DX.out.below hb2;have huf:∀ g,Value.ownBlock u=some g→wr.heap.size≤g:=fun g hg=>(o4.size g hg).1
    refine gK _ rfl (.tmp 27) (.tmp 30) 26 23 rfl W0.heap.size _ 1 24 underlying26 QW rfl (by decide) (by decide) V.on V.rows u rfl jiD.on ⟨bb,0,none⟩ 1 rfl rfl (fun j x hj=>by
     cases j with
     |zero=>simp only [Lm,AV] at hj;subst hj;exact c4
     |succ j=>simp at hj) (VX _ (kL o4)) (by rw [jiD.rlen];simp [Jo];omega) (bJ hbw.size hb2.size) ?_
    intro v7 w7 qy O5 Rw zB;have Xp:=DX.out.pushRow hb2 (o4.from_ hbw.size) huf O5 qy;have hBx7:dN w7 b V:=(xg.out.below hb2 jgh).grown O5 (fun he=>by
     rcases jiD.on.iD (xg.out.below hb2 jgh).blk (by decide) with h|h
     ·rw [h] at he;cases he
     ·exact h he.symm)
    have Nz:Below W0.heap.size W0 w7:=(hbw.trans (hb2.mono hbw.size)).trans zB;have WR:=Xp.box hBx7 0 v7;have EI:=hBx7.Yf v7;rw [← Xh] at WR
    have jbC:=Nz.setCell (p:=⟨b,0,none⟩) hlb v7;obtain ⟨Av,cv,hv7⟩:=qy.isSlice;simp only [dK,gQ,je,iV] at hv7
    have jbN:=Lib.hid WR;have MK:=Lib.hid EI;have q1:=hBx7.cells.1;have qf:=hBx7.frozen 0;clear WR EI Xp hBx7 qy O5 Rw zB huf jiD o4 c4;subst hv7;go_wp2_with fail;go_roundw
    case rel=>exact ⟨k+1,_,by omega,by go_num,jbN.out,MK.out,jbC⟩
    case measure=>simp [intOf];omega
   ·obtain rfl:k=p.aH.length:=by omega
    have hR1:=jik.out.below hbw hsz0;obtain ⟨b0,b1,b2,b3,b4,b5,b6⟩:=xg.out.cells;have hone:=DX.out.one;go_wp2_with (refine aK (.tmp 2) (.tmp 34) aP V rfl hR1 rfl hone (fun w9 aN dh=>?_))
    have ng:=DX.out.keptBy dh hR1.blk (by decide) (by decide) (by decide) (by decide) (by decide) (by decide)
    obtain ⟨p0,p1,p2,p3,p4,p5,p6⟩:=aN.cells;have hfin:Below w.heap.size w w9:=hB.grown dh hB.size (fun k hk=>by injection hk with hk;omega)
    have hsB:w.heap.size≤W0.heap.size:=hb0.size;clear b0 b1 b2 b3 b4 b5 b6;go_wp2_with fail;exact jS (v:=.tuple #[V.val,.int .i64 0]) (by simp [results,results88,go_sem,SV.val,p0,p1,p2,p3,p4,p5,p6]) rfl ⟨V,rfl,ng.from_ hsB,hfin⟩
 ·have hne:(bK p!=0)=true:=by simpa using hz
  go_wp2_with (refine aK (.tmp 2) (.tmp 11) aP aP rfl hx1 rfl rfl (fun w9 aN dh=>?_))
  obtain ⟨p0,p1,p2,p3,p4,p5,p6⟩:=aN.cells;have hfin:Below w.heap.size w w9:=hB1.grown dh hB1.size (fun k hk=>by injection hk with hk;omega)
  go_wp2_with fail;refine jS (v:=.tuple #[aP.val,.int .i64 (bK p)]) (by simp [results,results88,go_sem,SV.val,p0,p1,p2,p3,p4,p5,p6]) rfl ⟨aP,rfl,?_,hfin⟩
  exact aO.zero _ _
structure RB (w:World) (base:Nat) (V:SV) (z:List Int) (k:Nat):Prop where
 on:Own (fun u:Value=>[u]) 1 23 w base V.on V.rows
 rlen:V.rows.length=k
 row:∀ b,b<k→Own dY 1 3 w base (V.row b) z
 inn:Own dY 1 3 w base V.inn z
 out:Own dY 1 3 w base V.out z
 fixed:Own dY 1 3 w base V.fixed z
 none1:V.orders=gJ
 none2:V.holds=gJ
 none3:V.moves=gJ
namespace RB
variable {w w':World} {base:Nat} {V:SV} {z:List Int} {k:Nat}
end RB
end Wh
namespace Wh
open Go Go.RowKit Go.Proofs Tryz
section
variable {α:Type} {enc:α→List Value} {size:Nat} {e:TypeId} {w:World} {base:Nat} {v:Value} {l:List α}
theorem Own.at (h:Own enc size e w base v l) (hk:∀ x,(enc x).length=size) {i:Nat} (hi:i<l.length):
  ∃ g c cur,v=.slice (some ⟨g,0,none⟩) l.length c∧base≤g∧dw w g e cur∧∀ j u,(enc l[i])[j]?=some u→w.cell? ⟨g,i*size+j,none⟩=some u:=by
 obtain ⟨g,c,cur,h1,h2,h3,h4,h5,h6,h7⟩:=h.row (by omega)
 refine ⟨g,c,cur,h1,h2,h3,fun j u hj=>h3.cell ?_⟩
 have hjs:j<size:=by
  have:=(lC.1 hj).1
  rwa [hk] at this
 have hf:=flat_get enc size hk l i j l[i] (by simp [hi]) hjs
 rw [← h7] at hf
 rw [← hj,← hf,nI]
 rw [ak];calc i*size+j<i*size+size:=by omega
  _=(i+1)*size:=by rw [nG];omega
  _≤l.length*size:=AZ _ (by omega)
end
theorem dw.ne {w:World} {g g':Nat} {e e':TypeId} {cur cur':List Value} (h:dw w g e cur) (h':dw w g' e' cur') (hne:e≠e'):g≠g':=by
 rintro rfl;unfold dw at h h'
 rw [h] at h'
 injection h' with h'
 injection h' with _ h3
 exact hne h3
theorem dN.off {w w':World} {b g:Nat} {V:SV} {e:TypeId} {cur:List Value} (h:dN w b V) (hg:w.grownBy w' (some g)) (hb:dw w g e cur) (hne:e≠31):dN w' b V:=
 h.grown hg (by intro he;injection he with he;exact hb.ne h.blk hne he.symm)
namespace aO
variable {w w':World} {base:Nat} {V:SV} {s:State}
theorem oP (h:aO w base V s) {k:Nat} (hk:k<s.holds.length):∃ g c cur,V.holds=.slice (some ⟨g,0,none⟩) s.holds.length c∧base≤g∧dw w g 46 cur∧
  w.cell? ⟨g,k*4,none⟩=some (.int .i64 (hold s.holds k).order)∧w.cell? ⟨g,k*4+1,none⟩=some (.int .i64 (hold s.holds k).line)∧w.cell? ⟨g,k*4+2,none⟩=some (.int .i64 (hold s.holds k).bin)∧w.cell? ⟨g,k*4+3,none⟩=some (.int .i64 (hold s.holds k).n):=by
 obtain ⟨g,c,cur,h1,h2,h3,h4⟩:=h.holds.at (fun _=>rfl) hk
 have e:s.holds[k]=hold s.holds k:=by simp [hold,hk]
 rw [e] at h4
 exact ⟨g,c,cur,h1,h2,h3,h4 0 _ rfl,h4 1 _ rfl,h4 2 _ rfl,h4 3 _ rfl⟩
theorem aB (h:aO w base V s) {k:Nat} (hk:k<s.moves.length):∃ g c cur,V.moves=.slice (some ⟨g,0,none⟩) s.moves.length c∧base≤g∧dw w g 48 cur∧
  w.cell? ⟨g,k*4,none⟩=some (.int .i64 (Wh.aB s.moves k).good)∧w.cell? ⟨g,k*4+1,none⟩=some (.int .i64 (Wh.aB s.moves k).src)∧w.cell? ⟨g,k*4+2,none⟩=some (.int .i64 (Wh.aB s.moves k).dst)∧w.cell? ⟨g,k*4+3,none⟩=some (.int .i64 (Wh.aB s.moves k).n):=by
 obtain ⟨g,c,cur,h1,h2,h3,h4⟩:=h.moves.at (fun _=>rfl) hk
 have e:s.moves[k]=Wh.aB s.moves k:=by simp [Wh.aB,hk]
 rw [e] at h4
 exact ⟨g,c,cur,h1,h2,h3,h4 0 _ rfl,h4 1 _ rfl,h4 2 _ rfl,h4 3 _ rfl⟩
theorem ay (h:aO w base V s) {o:Nat} (ho:o<s.orders.length):∃ g c cur,V.orders=.slice (some ⟨g,0,none⟩) s.orders.length c∧base≤g∧dw w g 42 cur∧
  w.cell? ⟨g,o*2,none⟩=some (.int .i64 (s.order o).kind)∧w.cell? ⟨g,o*2+1,none⟩=some (V.line o):=by
 have hol:o<(pU s.orders V.lines).length:=by rw [kV h.llen];exact ho
 obtain ⟨g,c,cur,h1,h2,h3,h4⟩:=h.orders.at (fun _=>rfl) hol
 have e:(pU s.orders V.lines)[o]=((s.order o).kind,V.line o):=by
  have:=YC h.llen ho;rw [fF hol] at this
  exact gB this
 rw [e] at h4
 rw [kV h.llen] at h1
 exact ⟨g,c,cur,h1,h2,h3,h4 0 _ rfl,h4 1 _ rfl⟩
theorem bH (h:aO w base V s) {o k:Nat} (ho:o<s.orders.length) (hk:k<(s.order o).lines.length):∃ g c cur,V.line o=.slice (some ⟨g,0,none⟩) (s.order o).lines.length c∧base≤g∧dw w g 44 cur∧
  w.cell? ⟨g,k*4,none⟩=some (.int .i64 (s.line o k).good)∧w.cell? ⟨g,k*4+1,none⟩=some (.int .i64 (s.line o k).want)∧w.cell? ⟨g,k*4+2,none⟩=some (.int .i64 (s.line o k).got)∧w.cell? ⟨g,k*4+3,none⟩=some (.int .i64 (s.line o k).back):=by
 obtain ⟨g,c,cur,h1,h2,h3,h4⟩:=(h.line o ho).at (fun _=>rfl) hk
 have e:(s.order o).lines[k]=s.line o k:=by unfold State.line;simp [Wh.bH,hk]
 rw [e] at h4
 exact ⟨g,c,cur,h1,h2,h3,h4 0 _ rfl,h4 1 _ rfl,h4 2 _ rfl,h4 3 _ rfl⟩
theorem Jr (h:aO w base V s) {b g:Nat} (hb:b<s.on.length) (hg:g<(rowAt s.on b).length):∃ go co Ju gr cr cur,V.on=.slice (some ⟨go,0,none⟩) s.on.length co∧base≤go∧dw w go 23 Ju∧w.cell? ⟨go,b,none⟩=some (.slice (some ⟨gr,0,none⟩) (rowAt s.on b).length cr)∧
  V.row b=.slice (some ⟨gr,0,none⟩) (rowAt s.on b).length cr∧base≤gr∧dw w gr 3 cur∧w.cell? ⟨gr,g,none⟩=some (.int .i64 (cell s.on b g)):=by
 have hbl:b<V.rows.length:=by rw [h.rlen];exact hb
 obtain ⟨go,co,Ju,h1,h2,h3,h4⟩:=h.on.at (fun _=>rfl) hbl
 obtain ⟨gr,cr,cur,k1,k2,k3,k4⟩:=(h.row b hb).at (fun _=>rfl) hg
 have e:V.rows[b]=V.row b:=by unfold SV.row;simp [hbl]
 have h5:=h4 0 (V.row b) (by rw [e];rfl)
 have e2:(rowAt s.on b)[g]=cell s.on b g:=by unfold cell aC;simp [hg]
 have k5:=k4 0 (.int .i64 (cell s.on b g)) (by rw [e2];rfl)
 rw [rJ,lZ] at h5 k5
 rw [h.rlen] at h1
 rw [k1] at h5
 exact ⟨go,co,Ju,gr,cr,cur,h1,h2,h3,h5,k1,k2,k3,k5⟩
theorem qX {v:Value} {l:List Int} (h:Own dY 1 3 w base v l) {g:Nat} (hg:g<l.length):∃ gr c cur,v=.slice (some ⟨gr,0,none⟩) l.length c∧base≤gr∧dw w gr 3 cur∧w.cell? ⟨gr,g,none⟩=some (.int .i64 (aC l g)):=by
 obtain ⟨gr,c,cur,k1,k2,k3,k4⟩:=h.at (fun _=>rfl) hg
 have e2:l[g]=aC l g:=by unfold aC;simp [hg]
 have k5:=k4 0 (.int .i64 (aC l g)) (by rw [e2];rfl)
 rw [rJ,lZ] at k5
 exact ⟨gr,c,cur,k1,k2,k3,k5⟩
end aO
end Wh
namespace Wh
open Go Go.RowKit Go.Shelf Go.Proofs Tryz
def gU (r:State×Int) (w:World) (e:Ending) (w':World):Prop:=∃ V,e=.returned (.tuple #[V.val,.int .i64 r.2])∧aO w' w.heap.size V r.1∧Below w.heap.size w w'
theorem dF {r:State×Int} {c:Int} {w w':World} (h:r=(dJ,c)) (hb:Below w.heap.size w w'):gU r w (.returned (.tuple #[aP.val,.int .i64 c])) w':=
 ⟨aP,by rw [h],by rw [h];exact aO.zero _ _,hb⟩
theorem wH {r:State×Int} {s:State} {V:SV} {w w':World} (h:r=(s,0)) (ho:aO w' w.heap.size V s) (hb:Below w.heap.size w w'):gU r w (.returned (.tuple #[V.val,.int .i64 0])) w':=
 ⟨V,by rw [h],by rw [h];exact ho,hb⟩
theorem lH {ops:Array Oper} {rest:List Oper} {o:Oper} {a:Act} {w:World} {Q:Exit→Act→World→Prop} (hgd:o.guard=none) (x y:Operand) (ho:o.op=.store 3 x y) (hn:o.dst=none) (b off:Nat) (u:Value) (q:Int)
  (hx:a.eval x=.pointer (some ⟨b,off,none⟩)) (hy:a.eval y=.int .i64 q) (hc:w.cell? ⟨b,off,none⟩=some u) (hf:w.frozen? ⟨b,off,none⟩=false)
  (h:∀ w',w.setCell ⟨b,off,none⟩ (.int .i64 q)=w'→wpList prog ops Q rest a w'):wpList prog ops Q (o::rest) a w:=
 lV hgd fun K hK=>by
  unfold Oper.wp;simp only [execOp,ho,hx,hy];go_simp
  exact hK _ _ (h _ rfl)
end Wh
