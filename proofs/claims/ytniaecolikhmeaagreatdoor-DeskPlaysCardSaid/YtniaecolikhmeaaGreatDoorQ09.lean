/- Texts of the claim, joined. -/
import Derived.Test.YtniaecolikhmeaaGreatDoorQ08
set_option maxHeartbeats 20000000
set_option maxRecDepth 100000
set_option linter.all false
namespace Wh
open Go Go.RowKit Go.Shelf Go.Proofs Tryz
section
attribute [local go_sem] aV
theorem XD(s:aI)(b g:Int)(h:eX):((h.bin==b)=false/\xM s b g h=0)\/((h.bin==b)=true/\((s.aK h.aC.toNat h.aK.toNat).dW==g)=false/\xM s b g h=0)\/
  ((h.bin==b)=true/\((s.aK h.aC.toNat h.aK.toNat).dW==g)=true/\xM s b g h=h.n):=by
 unfold xM;by_cases h1:h.bin=b<;>by_cases h2:(s.aK h.aC.toNat h.aK.toNat).dW=g<;>simp[h1,h2]
theorem XR(b g:Int)(x:Move):((x.src==b)=false/\BI b g x=0)\/((x.src==b)=true/\(x.dW==g)=false/\BI b g x=0)\/((x.src==b)=true/\(x.dW==g)=true/\BI b g x=x.n):=by
 unfold BI;by_cases h1:x.src=b<;>by_cases h2:x.dW=g<;>simp[h1,h2]
theorem jbP(b g:Int)(x:Move):((x.dst==b)=false/\toN b g x=0)\/((x.dst==b)=true/\(x.dW==g)=false/\toN b g x=0)\/((x.dst==b)=true/\(x.dW==g)=true/\toN b g x=x.n):=by
 unfold toN;by_cases h1:x.dst=b<;>by_cases h2:x.dW=g<;>simp[h1,h2]
theorem jaz(w:World)(v:Value)(p:dG)(s:aI)(b g:Int)(hv:kG w w v s)(hs:pz p s):
  Calls prog 123 #[v,b,g] w λe w'=>e=.returned ((bound s b g))/\Below w w w':=by
 have hS:=hv;obtain⟨_,_,_,_,_,_,_,rfl,⟨A0,c0,vs0,rfl,hl0,hm0,ha0,hr0⟩,⟨A1,c1,vs1,rfl,hl1,hm1,ha1,hr1⟩,⟨A2,c2,rfl,hl2,ha2⟩,⟨A3,c3,rfl,hl3,ha3⟩,⟨A4,c4,rfl,hl4,ha4⟩,⟨A5,c5,rfl,hl5,ha5⟩,⟨A6,c6,rfl,Jb,ha6⟩⟩:=hv;have hb0:Below w w (w.alloc (kV s A0 c0 A1 c1 A2 c2 A3 c3 A4 c4 A5 c5 A6 c6)):=(aj _ _).alloc (ay _) _;have kX:w.heap.size<(w.alloc (kV s A0 c0 A1 c1 A2 c2 A3 c3 A4 c4 A5 c5 A6 c6)).heap.size:=by simp
 have hz0:(w.alloc (kV s A0 c0 A1 c1 A2 c2 A3 c3 A4 c4 A5 c5 A6 c6)).cell? ⟨w.heap.size,1,none⟩=some (.slice A1 s.ak.length c1)/\(w.alloc (kV s A0 c0 A1 c1 A2 c2 A3 c3 A4 c4 A5 c5 A6 c6)).cell? ⟨w.heap.size,2,none⟩=some (.slice A2 s.aA.length c2)/\(w.alloc (kV s A0 c0 A1 c1 A2 c2 A3 c3 A4 c4 A5 c5 A6 c6)).cell? ⟨w.heap.size,3,none⟩=some (.slice A3 s.aF.length c3):=by simp
 have ho1:∀W,Below w w W->oW W W.heap.size (.slice A1 s.ak.length c1) s.ak:=λW hW=>oW.up ⟨A1,c1,vs1,rfl,hl1,hm1,ha1,hr1⟩ hW hW.size
 have jjq:=ah ho1;have joh:=qH hs.aA;have hs8:=hs.uf;have hs4:=hs.nX;have zU:=ah hs;clear ho1 hs;go_enter func123,ntmps123
 go_wp2_with fail;generalize hW0:w.alloc (kV s A0 c0 A1 c1 A2 c2 A3 c3 A4 c4 A5 c5 A6 c6)=W0 at hb0 kX hz0 ⊢
 obtain⟨z1,z2,z3⟩:=hz0;clear hW0;go_loopw[7,8,9] (λn i _ wr=>∃k:Nat,k<=s.aA.length/\i=.int .i64 k/\n=.int .i64 (NH s b g k)/\Below W0.heap.size W0 wr) (λn i _ _=>s.aA.length - (RowKit.intOf i).toNat)
 case atStart=>exact⟨0,aN _,rfl,rfl,aj _ _⟩
 case round=>
  obtain⟨k,hk,rfl,rfl,hbw⟩:=hrel;obtain⟨r1,r2⟩:=ED zU.O b g k;have y1:=(hbw.cell (p:=⟨w.heap.size,1,none⟩) kX).trans z1;have y2:=(hbw.cell (p:=⟨w.heap.size,2,none⟩) kX).trans z2;have y3:=(hbw.cell (p:=⟨w.heap.size,3,none⟩) kX).trans z3;have hbz:w.heap.size<wr.heap.size:=aJ kX hbw.size;have hB:=fD hb0 hbw;by_cases hlt:k<s.aA.length
  ·obtain⟨hok,MW,b0,b1,b2,b3⟩:=(ha2.up hB hB.size).hold hlt;obtain⟨⟨i1,i2⟩,⟨i3,i4⟩,_,i7,i8⟩:=zU.O.yL hlt;have hol:(hold s.aA k).aC.toNat<s.ak.length:=by omega
   obtain⟨A',c',I8,Gv,_,d1,hsl⟩:=(jjq.O wr hB).aC hol;have hll:(hold s.aA k).aK.toNat<(bK s.ak (hold s.aA k).aC.toNat).aH.length:=by unfold aI.aC at i4;omega
   obtain⟨hok2,Qs,e0,_,_,_⟩:=hsl.at_.aK hll;have AY:=UW (s:=s) (b:=b) (g:=g) hlt;have i4':(hold s.aA k).aK<((bK s.ak (hold s.aA k).aC.toNat).aH.length:Int):=i4;have hba:Below W0 W0 (wr.alloc (nC (hold s.aA k))):=hbw.alloc hbw.size _;have hca:wr.heap.size<(wr.alloc (nC (hold s.aA k))).heap.size:=by simp
   have q0:=λo d os=>cZ (w:=wr.alloc (nC (hold s.aA k))) (b:=w.heap.size) (by simp;omega) o d os
   have q1:=λo d os=>cZ (w:=wr.alloc (nC (hold s.aA k))) (b:=wr.heap.size) hca o d os
   have q2:=λo d os=>cZ (w:=wr.alloc (nC (hold s.aA k))) (b:=iH A1) (by simp;omega) o d os
   have q3:=λo d os=>cZ (w:=wr.alloc (nC (hold s.aA k))) (b:=iH A') (by simp;omega) o d os
   have hl:fG (bK s.ak (hold s.aA k).aC.toNat).aH (hold s.aA k).aK.toNat=s.aK (hold s.aA k).aC.toNat (hold s.aA k).aK.toNat:=rfl;rw[hl]at e0
   have jlX:=ah hll;clear i4 hl hll;rcases XD s b g (hold s.aA k)with⟨g1,gh⟩|⟨g1,g2,gh⟩|⟨g1,g2,gh⟩
   all_goals
    rw[gh]at AY
    have hsu:=ah AY;clear AY gh;go_wp2_with fail;refine dO (by kernel_rfl) (by kernel_rfl) ?_
    repeat(go_big_quiet_step (fail))
    refine wpQuiet_nil ?_
    intro W2 hw';have hb2:=dN hw';clear hw';obtain⟨hc2,hf2⟩:=yt hb2;clear q0 q1 q2 q3;go_wp2_with fail;go_roundw
    case rel=>exact⟨k+1,by omega,by go_num,by rw[hsu.O]<;>first|rfl|simp,fD hba hb2⟩
    case measure=>simp[dY];omega
  ·obtain rfl:k=s.aA.length:=by omega
   rw[H8]at r1 r2 ⊢
   go_wp2_with fail;go_loopw[7,10] (λn i wr=>∃k:Nat,k<=s.aF.length/\i=.int .i64 k/\n=.int .i64 (pO s b g+Gw s.aF b g k)/\Below W0.heap.size W0 wr) (λn i _=>s.aF.length - (RowKit.intOf i).toNat)
   case atStart=>exact⟨0,aN _,rfl,by unfold Gw;simp,hbw⟩
   case round=>
    clear hbw y1 y2 y3 hbz hB;obtain⟨k,hk,rfl,rfl,hbw⟩:=hrel;obtain⟨t1,t2⟩:=Io zU.O b g k;have y3:=(hbw.cell (p:=⟨w.heap.size,3,none⟩) kX).trans z3;have hbz:w.heap.size<wr.heap.size:=aJ kX hbw.size;have hB:=fD hb0 hbw;by_cases hlt:k<s.aF.length
    ·obtain⟨hok,MW,b0,b1,b2,b3⟩:=(ha3.up hB hB.size).move hlt;obtain⟨_,_,_,_,i7,i8⟩:=zU.O.bZ hlt;have AY:=Tj (b:=b) (g:=g) hlt;rcases XR b g (bZ s.aF k)with⟨g1,gh⟩|⟨g1,g2,gh⟩|⟨g1,g2,gh⟩
     all_goals
      rw[gh]at AY
      have hsu:=ah AY;clear AY gh;go_wp2_with fail;go_roundw
      case rel=>exact⟨k+1,by omega,by go_num,by rw[hsu.O]<;>first|rfl|(simp<;>omega),hbw⟩
      case measure=>simp[dY];omega
    ·obtain rfl:k=s.aF.length:=by omega
     have kQ:=Lj s.aF b g;rw[kQ]at t1 t2 ⊢
     clear kQ;go_wp2_with fail;go_ret
     exact⟨rfl,hB⟩
theorem jat(w:World)(v:Value)(p:dG)(s:aI)(b g:Int)(hv:kG w w v s)(hs:pz p s):
  Calls prog 108 #[v,b,g] w λe w'=>e=.returned ((bound s b g))/\Below w w w':=by
 have hS:=hv;obtain⟨_,_,_,_,_,_,_,rfl,⟨A0,c0,vs0,rfl,hl0,hm0,ha0,hr0⟩,⟨A1,c1,vs1,rfl,hl1,hm1,ha1,hr1⟩,⟨A2,c2,rfl,hl2,ha2⟩,⟨A3,c3,rfl,hl3,ha3⟩,⟨A4,c4,rfl,hl4,ha4⟩,⟨A5,c5,rfl,hl5,ha5⟩,⟨A6,c6,rfl,Jb,ha6⟩⟩:=hv;have hb0:Below w w (w.alloc (kV s A0 c0 A1 c1 A2 c2 A3 c3 A4 c4 A5 c5 A6 c6)):=(aj _ _).alloc (ay _) _;have kX:w.heap.size<(w.alloc (kV s A0 c0 A1 c1 A2 c2 A3 c3 A4 c4 A5 c5 A6 c6)).heap.size:=by simp
 have hz0:(w.alloc (kV s A0 c0 A1 c1 A2 c2 A3 c3 A4 c4 A5 c5 A6 c6)).cell? ⟨w.heap.size,1,none⟩=some (.slice A1 s.ak.length c1)/\(w.alloc (kV s A0 c0 A1 c1 A2 c2 A3 c3 A4 c4 A5 c5 A6 c6)).cell? ⟨w.heap.size,2,none⟩=some (.slice A2 s.aA.length c2)/\(w.alloc (kV s A0 c0 A1 c1 A2 c2 A3 c3 A4 c4 A5 c5 A6 c6)).cell? ⟨w.heap.size,3,none⟩=some (.slice A3 s.aF.length c3):=by simp
 have ho1:∀W,Below w w W->oW W W.heap.size (.slice A1 s.ak.length c1) s.ak:=λW hW=>oW.up ⟨A1,c1,vs1,rfl,hl1,hm1,ha1,hr1⟩ hW hW.size
 have jjq:=ah ho1;have joh:=qH hs.aA;have hs8:=hs.uf;have hs4:=hs.nX;have zU:=ah hs;clear ho1 hs;go_enter func108,ntmps108
 go_wp2_with fail;generalize hW0:w.alloc (kV s A0 c0 A1 c1 A2 c2 A3 c3 A4 c4 A5 c5 A6 c6)=W0 at hb0 kX hz0 ⊢
 obtain⟨z1,z2,z3⟩:=hz0;clear hW0;go_loopw[7,15,9] (λn i _ wr=>∃k:Nat,k<=s.aA.length/\i=.int .i64 k/\n=.int .i64 (NH s b g k)/\Below W0.heap.size W0 wr) (λn i _ _=>s.aA.length - (RowKit.intOf i).toNat)
 case atStart=>exact⟨0,aN _,rfl,rfl,aj _ _⟩
 case round=>
  obtain⟨k,hk,rfl,rfl,hbw⟩:=hrel;obtain⟨r1,r2⟩:=ED zU.O b g k;have y1:=(hbw.cell (p:=⟨w.heap.size,1,none⟩) kX).trans z1;have y2:=(hbw.cell (p:=⟨w.heap.size,2,none⟩) kX).trans z2;have y3:=(hbw.cell (p:=⟨w.heap.size,3,none⟩) kX).trans z3;have hbz:w.heap.size<wr.heap.size:=aJ kX hbw.size;have hB:=fD hb0 hbw;by_cases hlt:k<s.aA.length
  ·obtain⟨hok,MW,b0,b1,b2,b3⟩:=(ha2.up hB hB.size).hold hlt;obtain⟨⟨i1,i2⟩,⟨i3,i4⟩,_,i7,i8⟩:=zU.O.yL hlt;have hol:(hold s.aA k).aC.toNat<s.ak.length:=by omega
   obtain⟨A',c',I8,Gv,_,d1,hsl⟩:=(jjq.O wr hB).aC hol;have hll:(hold s.aA k).aK.toNat<(bK s.ak (hold s.aA k).aC.toNat).aH.length:=by unfold aI.aC at i4;omega
   obtain⟨hok2,Qs,e0,_,_,_⟩:=hsl.at_.aK hll;have AY:=UW (s:=s) (b:=b) (g:=g) hlt;have i4':(hold s.aA k).aK<((bK s.ak (hold s.aA k).aC.toNat).aH.length:Int):=i4;have hba:Below W0 W0 (wr.alloc (nC (hold s.aA k))):=hbw.alloc hbw.size _;have hca:wr.heap.size<(wr.alloc (nC (hold s.aA k))).heap.size:=by simp
   have q0:=λo d os=>cZ (w:=wr.alloc (nC (hold s.aA k))) (b:=w.heap.size) (by simp;omega) o d os
   have q1:=λo d os=>cZ (w:=wr.alloc (nC (hold s.aA k))) (b:=wr.heap.size) hca o d os
   have q2:=λo d os=>cZ (w:=wr.alloc (nC (hold s.aA k))) (b:=iH A1) (by simp;omega) o d os
   have q3:=λo d os=>cZ (w:=wr.alloc (nC (hold s.aA k))) (b:=iH A') (by simp;omega) o d os
   have hl:fG (bK s.ak (hold s.aA k).aC.toNat).aH (hold s.aA k).aK.toNat=s.aK (hold s.aA k).aC.toNat (hold s.aA k).aK.toNat:=rfl;rw[hl]at e0
   have jlX:=ah hll;clear i4 hl hll;rcases XD s b g (hold s.aA k)with⟨g1,gh⟩|⟨g1,g2,gh⟩|⟨g1,g2,gh⟩
   all_goals
    rw[gh]at AY
    have hsu:=ah AY;clear AY gh;go_wp2_with fail;refine dO (by kernel_rfl) (by kernel_rfl) ?_
    repeat(go_big_quiet_step (fail))
    refine wpQuiet_nil ?_
    intro W2 hw';have hb2:=dN hw';clear hw';obtain⟨hc2,hf2⟩:=yt hb2;clear q0 q1 q2 q3;go_wp2_with fail;go_roundw
    case rel=>exact⟨k+1,by omega,by go_num,by rw[hsu.O]<;>first|rfl|simp,fD hba hb2⟩
    case measure=>simp[dY];omega
  ·obtain rfl:k=s.aA.length:=by omega
   rw[H8]at r1 r2 ⊢
   go_wp2_with fail;go_loopw[7,47,11] (λn i _ wr=>∃k:Nat,k<=s.aF.length/\i=.int .i64 k/\n=.int .i64 (pO s b g+Gw s.aF b g k)/\Below W0.heap.size W0 wr) (λn i _ _=>s.aF.length - (RowKit.intOf i).toNat)
   case atStart=>exact⟨0,aN _,rfl,by unfold Gw;simp,hbw⟩
   case round=>
    clear hbw y1 y2 y3 hbz hB;obtain⟨k,hk,rfl,rfl,hbw⟩:=hrel;obtain⟨t1,t2⟩:=Io zU.O b g k;have y3:=(hbw.cell (p:=⟨w.heap.size,3,none⟩) kX).trans z3;have hbz:w.heap.size<wr.heap.size:=aJ kX hbw.size;have hB:=fD hb0 hbw;by_cases hlt:k<s.aF.length
    ·obtain⟨hok,MW,b0,b1,b2,b3⟩:=(ha3.up hB hB.size).move hlt;obtain⟨_,_,_,_,i7,i8⟩:=zU.O.bZ hlt;have AY:=Tj (b:=b) (g:=g) hlt;rcases XR b g (bZ s.aF k)with⟨g1,gh⟩|⟨g1,g2,gh⟩|⟨g1,g2,gh⟩
     all_goals
      rw[gh]at AY
      have hsu:=ah AY;clear AY gh;go_wp2_with fail;go_roundw
      case rel=>exact⟨k+1,by omega,by go_num,by rw[hsu.O]<;>first|rfl|(simp<;>omega),hbw.alloc hbw.size (IE (bZ s.aF k))⟩
      case measure=>simp[dY];omega
    ·obtain rfl:k=s.aF.length:=by omega
     have kQ:=Lj s.aF b g;rw[kQ]at t1 t2 ⊢
     clear kQ;go_wp2_with fail;go_ret
     exact⟨rfl,hB⟩
theorem Nl(w:World)(v:Value)(p:dG)(s:aI)(b g:Int)(hv:kG w w v s)(hs:pz p s):
  Calls prog 117 #[v,b,g] w λe w'=>e=.returned ((iC s b g))/\Below w w w':=by
 have hS:=hv;obtain⟨_,_,_,_,_,_,_,rfl,⟨A0,c0,vs0,rfl,hl0,hm0,ha0,hr0⟩,⟨A1,c1,vs1,rfl,hl1,hm1,ha1,hr1⟩,⟨A2,c2,rfl,hl2,ha2⟩,⟨A3,c3,rfl,hl3,ha3⟩,⟨A4,c4,rfl,hl4,ha4⟩,⟨A5,c5,rfl,hl5,ha5⟩,⟨A6,c6,rfl,Jb,ha6⟩⟩:=hv;have hb0:Below w w (w.alloc (kV s A0 c0 A1 c1 A2 c2 A3 c3 A4 c4 A5 c5 A6 c6)):=(aj _ _).alloc (ay _) _;have kX:w.heap.size<(w.alloc (kV s A0 c0 A1 c1 A2 c2 A3 c3 A4 c4 A5 c5 A6 c6)).heap.size:=by simp
 have hz0:(w.alloc (kV s A0 c0 A1 c1 A2 c2 A3 c3 A4 c4 A5 c5 A6 c6)).cell? ⟨w.heap.size,1,none⟩=some (.slice A1 s.ak.length c1)/\(w.alloc (kV s A0 c0 A1 c1 A2 c2 A3 c3 A4 c4 A5 c5 A6 c6)).cell? ⟨w.heap.size,2,none⟩=some (.slice A2 s.aA.length c2)/\(w.alloc (kV s A0 c0 A1 c1 A2 c2 A3 c3 A4 c4 A5 c5 A6 c6)).cell? ⟨w.heap.size,3,none⟩=some (.slice A3 s.aF.length c3):=by simp
 have ho1:∀W,Below w w W->oW W W.heap.size (.slice A1 s.ak.length c1) s.ak:=λW hW=>oW.up ⟨A1,c1,vs1,rfl,hl1,hm1,ha1,hr1⟩ hW hW.size
 have jjq:=ah ho1;have joh:=qH hs.aA;have hs8:=hs.uf;have hs4:=hs.nX;have zU:=ah hs;clear ho1 hs;go_enter func117,ntmps117
 go_wp2_with fail;generalize hW0:w.alloc (kV s A0 c0 A1 c1 A2 c2 A3 c3 A4 c4 A5 c5 A6 c6)=W0 at hb0 kX hz0 ⊢
 obtain⟨z1,z2,z3⟩:=hz0;clear hW0;go_loopw[7,8] (λn i wr=>∃k:Nat,k<=s.aF.length/\i=.int .i64 k/\n=.int .i64 (Gz s.aF b g k)/\Below W0.heap.size W0 wr) (λn i _=>s.aF.length - (RowKit.intOf i).toNat)
 case atStart=>exact⟨0,aN _,rfl,rfl,aj _ _⟩
 case round=>
  skip
  obtain⟨k,hk,rfl,rfl,hbw⟩:=hrel;obtain⟨t1,t2⟩:=KA zU.O b g k;have y3:=(hbw.cell (p:=⟨w.heap.size,3,none⟩) kX).trans z3;have hbz:w.heap.size<wr.heap.size:=aJ kX hbw.size;have hB:=fD hb0 hbw;by_cases hlt:k<s.aF.length
  ·obtain⟨hok,MW,b0,b1,b2,b3⟩:=(ha3.up hB hB.size).move hlt;obtain⟨_,_,_,_,i7,i8⟩:=zU.O.bZ hlt;have AY:=QL (b:=b) (g:=g) hlt;rcases jbP b g (bZ s.aF k)with⟨g1,gh⟩|⟨g1,g2,gh⟩|⟨g1,g2,gh⟩
   all_goals
    rw[gh]at AY
    have hsu:=ah AY;clear AY gh;go_wp2_with fail;go_roundw
    case rel=>exact⟨k+1,by omega,by go_num,by rw[hsu.O]<;>first|rfl|(simp<;>omega),hbw⟩
    case measure=>simp[dY];omega
  ·obtain rfl:k=s.aF.length:=by omega
   have kQ:=NS s.aF b g;rw[kQ]at t1 t2 ⊢
   clear kQ;go_wp2_with fail;go_ret
   exact⟨rfl,hB⟩
theorem VF(w:World)(v:Value)(p:dG)(s:aI)(b g:Int)(hv:kG w w v s)(hs:pz p s):
  Calls prog 93 #[v,b,g] w λe w'=>e=.returned ((iC s b g))/\Below w w w':=by
 have hS:=hv;obtain⟨_,_,_,_,_,_,_,rfl,⟨A0,c0,vs0,rfl,hl0,hm0,ha0,hr0⟩,⟨A1,c1,vs1,rfl,hl1,hm1,ha1,hr1⟩,⟨A2,c2,rfl,hl2,ha2⟩,⟨A3,c3,rfl,hl3,ha3⟩,⟨A4,c4,rfl,hl4,ha4⟩,⟨A5,c5,rfl,hl5,ha5⟩,⟨A6,c6,rfl,Jb,ha6⟩⟩:=hv;have hb0:Below w w (w.alloc (kV s A0 c0 A1 c1 A2 c2 A3 c3 A4 c4 A5 c5 A6 c6)):=(aj _ _).alloc (ay _) _;have kX:w.heap.size<(w.alloc (kV s A0 c0 A1 c1 A2 c2 A3 c3 A4 c4 A5 c5 A6 c6)).heap.size:=by simp
 have hz0:(w.alloc (kV s A0 c0 A1 c1 A2 c2 A3 c3 A4 c4 A5 c5 A6 c6)).cell? ⟨w.heap.size,1,none⟩=some (.slice A1 s.ak.length c1)/\(w.alloc (kV s A0 c0 A1 c1 A2 c2 A3 c3 A4 c4 A5 c5 A6 c6)).cell? ⟨w.heap.size,2,none⟩=some (.slice A2 s.aA.length c2)/\(w.alloc (kV s A0 c0 A1 c1 A2 c2 A3 c3 A4 c4 A5 c5 A6 c6)).cell? ⟨w.heap.size,3,none⟩=some (.slice A3 s.aF.length c3):=by simp
 have ho1:∀W,Below w w W->oW W W.heap.size (.slice A1 s.ak.length c1) s.ak:=λW hW=>oW.up ⟨A1,c1,vs1,rfl,hl1,hm1,ha1,hr1⟩ hW hW.size
 have jjq:=ah ho1;have joh:=qH hs.aA;have hs8:=hs.uf;have hs4:=hs.nX;have zU:=ah hs;clear ho1 hs;go_enter func93,ntmps93
 go_wp2_with fail;generalize hW0:w.alloc (kV s A0 c0 A1 c1 A2 c2 A3 c3 A4 c4 A5 c5 A6 c6)=W0 at hb0 kX hz0 ⊢
 obtain⟨z1,z2,z3⟩:=hz0;clear hW0;go_loopw[7,13,9] (λn i _ wr=>∃k:Nat,k<=s.aF.length/\i=.int .i64 k/\n=.int .i64 (Gz s.aF b g k)/\Below W0.heap.size W0 wr) (λn i _ _=>s.aF.length - (RowKit.intOf i).toNat)
 case atStart=>exact⟨0,aN _,rfl,rfl,aj _ _⟩
 case round=>
  skip
  obtain⟨k,hk,rfl,rfl,hbw⟩:=hrel;obtain⟨t1,t2⟩:=KA zU.O b g k;have y3:=(hbw.cell (p:=⟨w.heap.size,3,none⟩) kX).trans z3;have hbz:w.heap.size<wr.heap.size:=aJ kX hbw.size;have hB:=fD hb0 hbw;by_cases hlt:k<s.aF.length
  ·obtain⟨hok,MW,b0,b1,b2,b3⟩:=(ha3.up hB hB.size).move hlt;obtain⟨_,_,_,_,i7,i8⟩:=zU.O.bZ hlt;have AY:=QL (b:=b) (g:=g) hlt;rcases jbP b g (bZ s.aF k)with⟨g1,gh⟩|⟨g1,g2,gh⟩|⟨g1,g2,gh⟩
   all_goals
    rw[gh]at AY
    have hsu:=ah AY;clear AY gh;go_wp2_with fail;go_roundw
    case rel=>exact⟨k+1,by omega,by go_num,by rw[hsu.O]<;>first|rfl|(simp<;>omega),hbw.alloc hbw.size (IE (bZ s.aF k))⟩
    case measure=>simp[dY];omega
  ·obtain rfl:k=s.aF.length:=by omega
   have kQ:=NS s.aF b g;rw[kQ]at t1 t2 ⊢
   clear kQ;go_wp2_with fail;go_ret
   exact⟨rfl,hB⟩
end
section
attribute [local go_sem] aV
theorem Nr(n lo hi:Int)(w:World):
  Calls prog 20 #[n,lo,hi] w λe w'=>e=.returned (.bool (dM n lo hi))/\w=w':=by
 go_enter func20,ntmps20
 by_cases h1:lo<=n
 ·by_cases h2:n<=hi
  ·go_wp2
   go_ret
   exact⟨by simp[dM,h1,h2],rfl⟩
  ·go_wp2
   go_ret
   exact⟨by simp[dM];omega,rfl⟩
 ·go_wp2
  go_ret
  exact⟨by simp[dM];omega,rfl⟩
theorem jlu(b:Bin)(W:World):
  Calls prog 22 #[jk1 b] W λe W'=>e=.returned (.bool (!Dw b))/\Below W W W':=by
 unfold jk1;go_enter func22,ntmps22
 rcases jhG b with⟨h1,h⟩|⟨h1,h2,h⟩|⟨h1,h2,h3,h⟩|⟨h1,h2,h3,h⟩
 ·go_wp2_with (go_at_call 20;refine(Nr _ _ _ _).mono ?_;rintro e w' ⟨rfl,rfl⟩)
  go_ret
  exact⟨gK (by rw[h];rfl),(aj _ _).alloc (ay _) _⟩
 ·go_wp2_with (go_at_call 20;refine(Nr _ _ _ _).mono ?_;rintro e w' ⟨rfl,rfl⟩)
  go_ret
  exact⟨gK (by rw[h];rfl),(aj _ _).alloc (ay _) _⟩
 ·go_wp2_with (go_at_call 20;refine(Nr _ _ _ _).mono ?_;rintro e w' ⟨rfl,rfl⟩)
  go_ret
  exact⟨gK (by rw[h];rfl),(aj _ _).alloc (ay _) _⟩
 ·go_wp2_with (go_at_call 20;refine(Nr _ _ _ _).mono ?_;rintro e w' ⟨rfl,rfl⟩)
  go_ret
  exact⟨gK (by rw[h];simp;omega),(aj _ _).alloc (ay _) _⟩
theorem jhq:Enters prog 22:=enters_of func22 (by kernel_rfl) rfl
theorem PZ(w:World)(v:Value)(p:dG)(hp:kK w w v p):
  Calls prog 7 #[v] w λe w'=>e=.returned ((fU p))/\Below w w w':=by
 obtain⟨_,_,rfl,⟨Ab,cb,rfl,hlb,hb⟩,⟨As,cs,rfl,hls,hs⟩⟩:=hp;have hb0:Below w w (w.alloc (kD p Ab cb As cs)):=(aj _ _).alloc (ay _) _;go_enter func7,ntmps7
 cases h1:dM p.dP.length 1 6
 ·go_wp2_with (go_at_call 20;refine(Nr _ _ _ _).mono ?_;rintro e w' ⟨rfl,rfl⟩)
  go_ret
  exact⟨iK (Iq (.inl h1)).symm,hb0⟩
 cases h2:dM p.aW.length 1 3
 ·go_wp2_with (go_at_call 20;refine(Nr _ _ _ _).mono ?_;rintro e w' ⟨rfl,rfl⟩)
  go_ret
  exact⟨iK (Iq (.inr h2)).symm,hb0⟩
 have wU:0<p.aW.length:=by have:=dZ.1 h2;omega
 have hsb:∀W,Below w w W->Sl Qv W W.heap.size (.slice Ab p.dP.length cb) p.dP:=λW hW=>Sl.up ⟨Ab,cb,rfl,hlb,hb⟩ hW hW.size
 have hss:∀W,Below w w W->Sl iW W W.heap.size (.slice As p.aW.length cs) p.aW:=λW hW=>Sl.up ⟨As,cs,rfl,hls,hs⟩ hW hW.size
 go_wp2_with (go_at_call 20;refine(Nr _ _ _ _).mono ?_;rintro e w' ⟨rfl,rfl⟩)
 refine(Vz _ _ p.dP 22 #[] (λb=>!Dw b) jhq (hsb _ hb0) (λk _ W _=>jlu _ W)).mono ?_
 rintro e W1 ⟨rfl,hb1⟩;have hbw:=hb0.trans (hb1.mono (by simp))
 have hsz:=hb1.size;obtain⟨hc1,hf1⟩:=yt hb1;cases hbad:(p.dP.any λb=>!Dw b)
 ·go_wp2_with fail;refine(jh3 _ _ p.aW (hss _ hbw) wU).mono ?_
  rintro e w' ⟨rfl,rfl⟩;by_cases hlo:D8 p.aW<1
  ·go_wp2_with fail;go_ret
   exact⟨iK (Ux h1 h2 hlo).symm,hbw⟩
  ·go_wp2_with fail;refine(jh4 _ _ p.aW (hss _ hbw) wU).mono ?_
   rintro e w' ⟨rfl,rfl⟩;by_cases hgr:9<yN p.aW
   ·go_wp2_with fail;go_ret
    exact⟨iK (RV h1 h2 hgr).symm,hbw⟩
   ·go_wp2_with fail;go_ret
    exact⟨iK (Ye h1 h2 hbad (by omega) (by omega)).symm,hbw⟩
 ·go_wp2_with fail;go_ret
  exact⟨iK (Y5 h1 h2 hbad).symm,hbw⟩
end
section
attribute [local go_sem] aV
theorem DX(w:World)(v:Value)(p:dG)(b:Int)(hp:kK w w v p)(hn:p.dP.length<=1000):
  Calls prog 80 #[v,b] w λe w'=>e=.returned (.bool (lK p b))/\Below w w w':=by
 obtain⟨_,_,rfl,⟨Ab,cb,rfl,hlb,hb⟩,⟨As,cs,rfl,hls,hs⟩⟩:=hp;go_enter func80,ntmps80
 go_wp2_with (go_at_call 43;refine(oz _ _ _ _).mono ?_;rintro e w' ⟨rfl,rfl⟩)
 go_ret
 exact⟨rfl,(aj _ _).alloc (ay _) _⟩
theorem Fe(w:World)(v:Value)(p:dG)(g:Int)(hp:kK w w v p)(hn:p.aW.length<=1000):
  Calls prog 115 #[v,g] w λe w'=>e=.returned (.bool (iO p g))/\Below w w w':=by
 obtain⟨_,_,rfl,⟨Ab,cb,rfl,hlb,hb⟩,⟨As,cs,rfl,hls,hs⟩⟩:=hp;go_enter func115,ntmps115
 go_wp2_with (go_at_call 43;refine(oz _ _ _ _).mono ?_;rintro e w' ⟨rfl,rfl⟩)
 go_ret
 exact⟨rfl,(aj _ _).alloc (ay _) _⟩
theorem jbQ(p:dG)(b g:Int):(b<0/\(lK p b&&iO p g)=false)\/(0<=b/\(p.dP.length:Int)<=b/\(lK p b&&iO p g)=false)\/
  (0<=b/\b<p.dP.length/\g<0/\(lK p b&&iO p g)=false)\/(0<=b/\b<p.dP.length/\0<=g/\(p.aW.length:Int)<=g/\(lK p b&&iO p g)=false)\/
  (0<=b/\b<p.dP.length/\0<=g/\g<p.aW.length/\(lK p b&&iO p g)=true):=by
 have h1:=@zA p b;have h2:=@wI p g;cases hb:lK p b<;>cases hg:iO p g<;>simp[hb,hg]at h1 h2 ⊢<;>omega
theorem KU(w:World)(v:Value)(p:dG)(b g:Int)(hp:kK w w v p):
  Calls prog 91 #[v,b,g] w λe w'=>e=.returned (.bool (lK p b&&iO p g))/\Below w w w':=by
 obtain⟨_,_,rfl,⟨Ab,cb,rfl,hlb,hb⟩,⟨As,cs,rfl,hls,hs⟩⟩:=hp;go_enter func91,ntmps91
 rcases jbQ p b g with⟨h1,h⟩|⟨h1,h2,h⟩|⟨h1,h2,h3,h⟩|⟨h1,h2,h3,h4,h⟩|⟨h1,h2,h3,h4,h⟩
 all_goals
  go_wp2
  go_ret
  exact⟨gK (by first|rfl|(simp<;>omega)|(rw[h]<;>first|rfl|(simp<;>omega))),(aj _ _).alloc (ay _) _⟩
theorem jh9(p:dG)(row:List Int)(W:World)(B:Nat)(u:Value)(hn:0<p.aW.length)(As:Option Addr)(cs:Nat)(hc:W.cell? ⟨B,1,none⟩=some (.slice As p.aW.length cs))(hu:Sl iW W W u row):
  Calls prog 180 #[u,.pointer (some B)] W λe W'=>e=.returned (.bool (!CQ p row))/\Below W W W':=by
 have hu':=hu;obtain⟨A,c,rfl,hl,hA⟩:=hu;go_enter func180,ntmps180
 rcases jgI row hn with⟨h1,h⟩|⟨h1,h2,h⟩|⟨h1,h2,h3,h⟩|⟨h1,h2,h3,h⟩
 ·go_wp2_with fail;go_ret
  exact⟨gK (by rw[h];rfl),aj _ _⟩
 all_goals
  have wU:0<row.length:=by omega
  have hle1:=mV h1;have hle2:=mV h1.symm;clear h1;go_wp2_with (first|(go_at_call 23;refine(jh3 _ _ row hu' wU).mono ?_;rintro e w' ⟨rfl,rfl⟩)|(go_at_call 24;refine(jh4 _ _ row hu' wU).mono ?_;rintro e w' ⟨rfl,rfl⟩))
  go_ret
  exact⟨gK (by first|rfl|(simp<;>omega)|(rw[h]<;>first|rfl|(simp<;>omega))),aj _ _⟩
theorem X4:Enters prog 180:=enters_of func180 (by kernel_rfl) rfl
end
section
attribute [local go_sem] aV
theorem WB(w:World)(v vo:Value)(p:dG)(on:List (List Int))(hp:kK w w v p)(ho:KJ iW w w vo on):
  Calls prog 137 #[v,vo] w λe w'=>e=.returned ((iU p on))/\Below w w w':=by
 have hP:=hp;have hO:=ho;obtain⟨_,_,rfl,⟨Ab,cb,rfl,hlb,hb⟩,⟨As,cs,rfl,hls,hs⟩⟩:=hp;obtain⟨A,c,vs,rfl,hl,hvl,hA,Jk⟩:=ho;have hb0:Below w w (w.alloc (kD p Ab cb As cs)):=(aj _ _).alloc (ay _) _;go_enter func137,ntmps137
 go_wp2_with fail;refine(PZ _ _ p (hP.up hb0 hb0.size)).mono ?_
 rintro e W1 ⟨rfl,hb1⟩;have hbw:=hb0.trans (hb1.mono (by simp))
 have hsz:=hb1.size;obtain⟨hc1,hf1⟩:=yt hb1;by_cases hz:fU p=0
 ·have hz':=Bd.1 hz;have wU:0<p.aW.length:=hz'.2.1.1;have Aj:W1.cell? ⟨w.heap.size,1,none⟩=some (.slice As p.aW.length cs):=by rw[hc1 _ _ (by simp)];simp
  by_cases lZ:on.length=p.dP.length
  ·have hle1:=mV lZ;have hle2:=mV lZ.symm;have hlen':=ah lZ;clear lZ;go_wp2_with fail;refine(Vy _ _ on 180 #[.pointer (some w)] (λr=>!CQ p r) X4 (hO.up hbw hbw.size) (λk _ W hW u hu=>
    jh9 p (fO on k) W w u wU As cs ((hW.cell (p:=⟨w.heap.size,1,none⟩) (by simp at hsz ⊢;omega)).trans Aj) hu)).mono ?_
   rintro e W2 ⟨rfl,hb2⟩;have hbw2:=fD hbw hb2;cases hbad:(on.any λr=>!CQ p r)
   ·go_wp2_with fail;go_ret
    exact⟨iK (Oc hz hlen'.O hbad).symm,hbw2⟩
   ·go_wp2_with fail;go_ret
    exact⟨iK (PE hz hbad).symm,hbw2⟩
  ·have hno:=PD hz lZ;go_wp2_with fail;go_ret
   exact⟨iK hno.symm,hbw⟩
 ·have hno:=Ob (on:=on) hz;go_wp2_with fail;go_ret
  exact⟨iK hno.symm,hbw⟩
theorem jcb(w:World)(v vo:Value)(p:dG)(on:List (List Int))(hp:kK w w v p)(ho:KJ iW w w vo on):
  Calls prog 164 #[v,vo] w λe w'=>e=.returned ((iU p on))/\Below w w w':=by
 have hP:=hp;have hO:=ho;obtain⟨_,_,rfl,⟨Ab,cb,rfl,hlb,hb⟩,⟨As,cs,rfl,hls,hs⟩⟩:=hp;obtain⟨A,c,vs,rfl,hl,hvl,hA,Jk⟩:=ho;have hb0:Below w w (w.alloc (kD p Ab cb As cs)):=(aj _ _).alloc (ay _) _;go_enter func164,ntmps164
 go_wp2_with fail;refine(WL _ _ p (hP.up hb0 hb0.size)).mono ?_
 rintro e W1 ⟨rfl,hb1⟩;have hbw:=hb0.trans (hb1.mono (by simp))
 have hsz:=hb1.size;obtain⟨hc1,hf1⟩:=yt hb1;by_cases hz:fU p=0
 ·have hz':=Bd.1 hz;have wU:0<p.aW.length:=hz'.2.1.1;by_cases lZ:on.length=p.dP.length
  ·have hle1:=mV lZ;have hle2:=mV lZ.symm;have hlen':=ah lZ;have hnb:((on.length:Int)!=(p.dP.length:Int))=false:=by rw[lZ];simp
   have hcell0:W1.cell? w=some (.slice Ab p.dP.length cb):=by rw[hc1 _ _ (by simp)];simp
   have hcell1:W1.cell? ⟨w.heap.size,1,none⟩=some (.slice As p.aW.length cs):=by rw[hc1 _ _ (by simp)];simp
   have um:w.heap.size<W1.heap.size:=by simp at hsz;omega
   clear lZ hc1 hf1 hsz hb1 hz';have hzz:=ah hz;go_wp2_with fail;clear hz;go_loopw[6] (λi wr=>∃k:Nat,k<=on.length/\i=.int .i64 k/\(∀j,j<k->CQ p (fO on j)=true)/\Below w.heap.size w wr/\w.heap.size<wr.heap.size/\wr.cell? ⟨w.heap.size,1,none⟩=some (.slice As p.aW.length cs)) (λi _=>on.length - (RowKit.intOf i).toNat)
   case atStart=>exact⟨0,aN _,rfl,λj hj=>by omega,hbw,um,hcell1⟩
   case round=>
    obtain⟨k,hk,rfl,kQ,hbr,jt5,hcr⟩:=hrel;by_cases hlt:k<on.length
    ·obtain⟨A',c',hok,MW,hcu,hsu⟩:=(hO.up hbr hbr.size).row hlt;have hA2:=hsu.at_;by_cases hrl:(fO on k).length=p.aW.length
     ·have hr1:=mV hrl;have hr2:=mV hrl.symm;have jeP:=ah hrl;have hnr:(((fO on k).length:Int)!=(p.aW.length:Int))=false:=by rw[hrl];simp
      clear hrl;go_wp2_with fail;go_quiet (fail)
      go_wp2_with fail;have hA3:=hA2.up (below_drewN (aj _ _) nq) (ay _);go_loop[7] (λi=>∃j:Nat,j<=(fO on k).length/\i=j/\(∀m,m<j->dM (aZ (fO on k) m) 0 200=true)) (λi=>(fO on k).length - (RowKit.intOf i).toNat)
      case atStart=>exact⟨0,aN _,rfl,λj hj=>by omega⟩
      case round=>
       obtain⟨j,hj,rfl,jc8⟩:=hrel;by_cases hjt:j<(fO on k).length
       ·obtain⟨hok2,Qs,b2⟩:=hA3.int hjt;cases g1:dM (aZ (fO on k) j) 0 200
        ·have dw:=ah (Pz hzz.O hlt (jd8 hjt g1));go_wp2_with (go_at_call 43;refine(oz _ _ _ _).mono ?_;rintro e w' ⟨rfl,rfl⟩)
         go_ret
         exact⟨iK dw.O.symm,below_drewN hbr _⟩
        ·go_wp2_with (go_at_call 43;refine(oz _ _ _ _).mono ?_;rintro e w' ⟨rfl,rfl⟩)
         go_round
         case rel=>
          refine⟨j+1,by omega,by go_num,λm hm=>?_⟩
          rcases bf.1 hm with h|rfl
          ·exact jc8 m h
          ·exact g1
         case measure=>simp[dY];omega
       ·obtain rfl:j=(fO on k).length:=by omega
        have wK:=Zq jeP.O jc8;go_wp2_with fail;go_roundw
        case rel=>
         refine⟨k+1,by omega,by go_num,λm hm=>?_,below_drewN hbr _,jt5,hcr⟩
         rcases bf.1 hm with h|rfl
         ·exact kQ m h
         ·exact wK
        case measure=>simp[dY];omega
     ·have hno:CQ p (fO on k)=false:=by unfold CQ;simp[hrl]
      have dw:=ah (Pz hzz.O hlt hno);go_wp2_with fail;go_quiet (fail)
      go_wp2_with fail;go_ret
      exact⟨iK dw.O.symm,below_drewN hbr _⟩
    ·obtain rfl:k=on.length:=by omega
     have dw:=ah (PG hzz.O hlen'.O kQ);go_wp2_with fail;go_ret
     exact⟨iK dw.O.symm,hbr⟩
  ·have hno:=PD hz lZ;go_wp2_with fail;go_ret
   exact⟨iK hno.symm,hbw⟩
 ·have hno:=Ob (on:=on) hz;go_wp2_with fail;go_ret
  exact⟨iK hno.symm,hbw⟩
end
section
attribute [local go_sem] aV
theorem TV{p:dG}{on:List (List Int)}{b g:Int}(h:iU p on≠0):qV p on b g=iU p on:=by
 unfold qV;rw[aB h]
theorem TU{p:dG}{on:List (List Int)}{b g:Int}(h:iU p on=0)(h2:(lK p b&&iO p g)=false):qV p on b g=3:=by
 unfold qV;simp[h,h2]
theorem YE{p:dG}{on:List (List Int)}{b g:Int}(h:iU p on=0)(h2:(lK p b&&iO p g)=true):qV p on b g=0:=by
 unfold qV;simp[h,h2]
theorem jd5(w:World)(v vo:Value)(p:dG)(on:List (List Int))(b g:Int)(hp:kK w w v p)(ho:KJ iW w w vo on):
  Calls prog 213 #[v,vo,b,g] w λe w'=>e=.returned ((qV p on b g))/\Below w w w':=by
 have hP:=hp;have hO:=ho;obtain⟨_,_,rfl,⟨Ab,cb,rfl,hlb,hb⟩,⟨As,cs,rfl,hls,hs⟩⟩:=hp;have hb0:Below w w (w.alloc (kD p Ab cb As cs)):=(aj _ _).alloc (ay _) _;go_enter func213,ntmps213
 go_wp2_with fail;refine(WB _ _ vo p on (hP.up hb0 hb0.size) (hO.up hb0 hb0.size)).mono ?_
 rintro e W1 ⟨rfl,hb1⟩;have hbw:=hb0.trans (hb1.mono (by simp))
 have hsz:=hb1.size;obtain⟨hc1,hf1⟩:=yt hb1;by_cases hz:iU p on=0
 ·go_wp2_with fail;refine(KU _ _ p b g (hP.up hbw hbw.size)).mono ?_
  rintro e W2 ⟨rfl,hb2⟩;have hbw2:=fD hbw hb2;cases ht:(lK p b&&iO p g)
  ·have dw:=ah (TU hz ht);go_wp2_with fail;go_ret
   exact⟨iK dw.O.symm,hbw2⟩
  ·have dw:=ah (YE hz ht);go_wp2_with fail;go_ret
   exact⟨iK dw.O.symm,hbw2⟩
 ·have dw:=ah (TV (b:=b) (g:=g) hz);go_wp2_with fail;go_ret
  exact⟨iK dw.O.symm,hbw⟩
end
section
attribute [local go_sem] aV
theorem jlb(w:World)(v vo:Value)(p:dG)(on:List (List Int))(b:Nat)(hp:kK w w v p)(ho:KJ iW w w vo on)(hz:iU p on=0)(hbn:b<p.dP.length):
  Calls prog 167 #[v,vo,b] w λe w'=>e=.returned ((MZ p on b))/\Below w w w':=by
 have hP:=hp;have hO:=ho;obtain⟨_,_,rfl,⟨Ab,cb,rfl,hlb,hb⟩,⟨As,cs,rfl,hls,hs⟩⟩:=hp;obtain⟨A,c,vs,rfl,hl,hvl,hA,Jk⟩:=ho;have hb0:Below w w (w.alloc (kD p Ab cb As cs)):=(aj _ _).alloc (ay _) _;have hbl:b<on.length:=by rw[PX hz];exact hbn
 have hcnt:=oI (jR.1 hz).1;have wK:=PW hz hbl;have hle:=mV wK.symm;have hR:=ah wK;clear wK;go_enter func167,ntmps167
 go_wp2_with fail;go_loopw[7,8] (λn i wr=>∃k:Nat,k<=p.aW.length/\i=.int .i64 k/\n=.int .i64 (ny (λg=>cell on b g*aZ p.aW g) k)/\Below w.heap.size w wr/\w.heap.size<wr.heap.size/\wr.cell? ⟨w.heap.size,1,none⟩=some (.slice As p.aW.length cs)) (λ_ i _=>p.aW.length - (RowKit.intOf i).toNat)
 case atStart=>exact⟨0,aN _,rfl,rfl,hb0,by simp,by simp⟩
 case round=>
  obtain⟨k,hk,rfl,rfl,hbw,hsz,hc1⟩:=hrel;by_cases hlt:k<p.aW.length
  ·obtain⟨A',c',hok,MW,hcu,hsu⟩:=(hO.up hbw hbw.size).row hbl;obtain⟨hok2,Qs,b2⟩:=hsu.at_.int (i:=k) (by rw[hR.O];exact hlt)
   obtain⟨hok3,hAb3,b3⟩:=(hs.up hbw hbw.size).int hlt;obtain⟨u1,u2⟩:=Wj hz hbl hk;have hu2:ny (λg=>cell on b g*aZ p.aW g) k<=9000:=by omega
   obtain⟨q1,q2⟩:=WO (Hr hz hbl hlt) (Ac (jR.1 hz).1 hlt);unfold cell at q1 q2
   clear u2;have hlr:k<(fO on b).length:=by omega
   go_wp2_with fail;go_quiet (fail)
   go_wp2_with fail;go_roundw
   case rel=>exact⟨k+1,by omega,by go_num,rfl,below_drewN hbw _,hsz,hc1⟩
   case measure=>simp[dY];omega
  ·obtain rfl:k=p.aW.length:=by omega
   go_wp2_with fail;go_ret
   exact⟨rfl,hbw⟩
theorem jiq(w:World)(vo:Value)(p:dG)(on:List (List Int))(g:Nat)(ho:KJ iW w w vo on)(hz:iU p on=0)(hgn:g<p.aW.length):
  Calls prog 206 #[vo,g] w λe w'=>e=.returned ((Du on g))/\w=w':=by
 have hO:=ho;obtain⟨A,c,vs,rfl,hl,hvl,hA,Jk⟩:=ho;have hcnt:=oI (jR.1 hz).1;have lZ:=PX hz;have hle:=mV lZ;clear lZ;go_enter func206,ntmps206
 go_wp2_with fail;go_loop[5,6] (λn i=>∃k:Nat,k<=on.length/\i=k/\n=.int .i64 (ny (λb=>cell on b g) k)) (λ_ i=>on.length - (RowKit.intOf i).toNat)
 case atStart=>exact⟨0,aN _,rfl,rfl⟩
 case round=>
  obtain⟨k,hk,rfl,rfl⟩:=hrel;by_cases hlt:k<on.length
  ·obtain⟨A',c',hok,MW,hcu,hsu⟩:=hO.row hlt;have hgr:g<(fO on k).length:=by rw[PW hz hlt];exact hgn
   obtain⟨hok2,Qs,b2⟩:=hsu.at_.int hgr;obtain⟨u1,u2⟩:=Ze hz hgn hk;have hu2:ny (λb=>cell on b g) k<=9000:=by omega
   obtain⟨q1,q2⟩:=Hr hz hlt hgn;unfold cell at q1 q2
   clear u2;go_wp2_with fail;go_round
   case rel=>exact⟨k+1,by omega,by go_num,rfl⟩
   case measure=>simp[dY];omega
  ·obtain rfl:k=on.length:=by omega
   go_wp2_with fail;go_ret
   exact⟨rfl,rfl⟩
end
section
attribute [local go_sem] aV
theorem jfM{p:dG}{on:List (List Int)}{g:Nat}(h:qV p on 0 g=0):jhW p on g=Du on g:=by
 unfold jhW;rw[aB h,dn]
theorem jk2{p:dG}{on:List (List Int)}{g:Int}(h:qV p on 0 g≠0):jhW p on g=0:=by
 unfold jhW;rw[au h]
theorem jh7(w:World)(v vo:Value)(p:dG)(on:List (List Int))(g:Int)(hp:kK w w v p)(ho:KJ iW w w vo on):
  Calls prog 192 #[v,vo,g] w λe w'=>e=.returned (.tuple #[(jhW p on g),(qV p on 0 g)])/\Below w w w':=by
 have hP:=hp;have hO:=ho;obtain⟨_,_,rfl,⟨Ab,cb,rfl,hlb,hb⟩,⟨As,cs,rfl,hls,hs⟩⟩:=hp;obtain⟨A,c,vs,rfl,hl,hvl,hA,Jk⟩:=ho;have hb0:Below w w (w.alloc (kD p Ab cb As cs)):=(aj _ _).alloc (ay _) _;go_enter func192,ntmps192
 go_wp2_with fail;refine(jd5 _ _ _ p on 0 g (hP.up hb0 hb0.size) (hO.up hb0 hb0.size)).mono ?_
 rintro e W1 ⟨rfl,hb1⟩;have hbw:=hb0.trans (hb1.mono (by simp))
 have hsz:=hb1.size;obtain⟨hc1,hf1⟩:=yt hb1;by_cases hz:qV p on 0 g=0
 ·obtain⟨hz1,hz2,hz3⟩:=NY.1 hz;have hbb:=wI.1 hz3;obtain⟨g',rfl⟩:∃n:Nat,g=n:=⟨g.toNat,by omega⟩
  have hgn:g'<p.aW.length:=by omega
  have hcnt:=oI (jR.1 hz1).1;have lZ:=PX hz1;have hle:=mV lZ;clear lZ hbb hz2 hz3;have dw:=ah (jfM hz);have hz':=ah hz;go_wp2_with fail;clear hz;go_loop[9,21,11] (λn i _=>∃k:Nat,k<=on.length/\i=k/\n=.int .i64 (ny (λb=>cell on b g') k)) (λ_ i _=>on.length - (RowKit.intOf i).toNat)
  case atStart=>exact⟨0,aN _,rfl,rfl⟩
  case round=>
   obtain⟨k,hk,rfl,rfl⟩:=hrel;by_cases hlt:k<on.length
   ·obtain⟨A',c',hok,MW,hcu,hsu⟩:=(hO.up hbw hbw.size).row hlt;have hgr:g'<(fO on k).length:=by rw[PW hz1 hlt];exact hgn
    obtain⟨hok2,Qs,b2⟩:=hsu.at_.int hgr;obtain⟨u1,u2⟩:=Ze hz1 hgn hk;have hu2:ny (λb=>cell on b g') k<=9000:=by omega
    obtain⟨q1,q2⟩:=Hr hz1 hlt hgn;unfold cell at q1 q2
    clear u2;go_wp2_with fail;go_round
    case rel=>exact⟨k+1,by omega,by go_num,rfl⟩
    case measure=>simp[dY];omega
   ·obtain rfl:k=on.length:=by omega
    go_wp2_with fail;go_ret2
    exact⟨jd9 (by rw[dw.O];rfl) (by rw[hz'.O];rfl),hbw⟩
 ·have dw:=ah (jk2 hz);have hz':=ah hz;go_wp2_with fail;go_ret2
  exact⟨jd9 (by rw[dw.O];rfl) rfl,hbw⟩
end
section
attribute [local go_sem] aV
theorem SQ:Elem prog 23 (nS) 1 24:=Ls (by kernel_rfl)
theorem Tz(w:World)(v:Value)(l:List Int)(hv:Sl iW w w v l)(hn:l.length<=1000000):
  Calls prog 145 #[v] w (Gives (λu w'=>Own iW 1 3 w' w u l) w):=by
 obtain⟨A,c,rfl,hl,hA⟩:=hv;have qT:∀(w:World) (a:Option Addr) (n c n' c':Nat),(binOp .eql 23 (.slice a n c) (.slice none n' c')).run prog w=.ok (.bool a.isNone) w:=λw a n c n' c'=>Lib.run_eql_slice_nil w _ _ a n c n' c' underlying23
 cases A with
 |none=>
  have h0:l=[]:=by
   cases l with
   |nil=>rfl
   |cons x r=>exact absurd (hA.ok (by simp[iW])) (by rintro⟨b,off,h⟩;cases h)
  subst h0;go_enter func145,ntmps145
  go_wp2_with (at_builtin;refine bD ?_)
  go_ret
  exact⟨_,rfl,Own.nil,aj _ _⟩
 |some ad=>
  go_enter func145,ntmps145
  go_wp2_with (at_builtin;refine bD ?_)
  unfold Hid;refine yH _ rfl (.tmp 5) (.tmp 6) 23 3 rfl w.heap.size _ 1 8 underlying23 zS rfl (by decide) (by decide) (.slice (some w) 0 0) ([]:List Int) l rfl (Own.Xg w _ (ay _)) (some ad) c w rfl (λ_=>rfl)
   (hA.up ((aj _ _).alloc (ay _) _) (ay _)) (λy=>Dv y) (by simpa using hn) (by simp) ?_
  intro v1 w1 yK hg1 jc6 Gt;go_wp2_with fail;go_ret
  exact⟨_,rfl,by simpa using yK,((aj _ _).alloc (ay _) _).trans Gt⟩
theorem Zd{α:Type}{l:List α}{k:Nat}(h:k<l.length):l.take (k+1)=l.take k++[l[k]]:=by
 rw[bM h]
theorem VJ(v:Value)(h:v.oneCell'=true):∀u∈(λx:Value=>[x]) v,u.oneCell'=true:=by simpa using h
theorem jh8(w:World)(v:Value)(on:List (List Int))(hv:KJ iW w w v on)(hn:on.length<=1000)(hr:∀k,k<on.length->0<(fO on k).length/\(fO on k).length<=1000):
  Calls prog 142 #[v] w (Gives (λu w'=>∃gs,qN 23 3 w' w u on gs) w):=by
 have hO:=hv;obtain⟨A,c,vs,rfl,hl,hvl,hA,Jk⟩:=hv;go_enter func142,ntmps142
 go_wp2_with fail;go_loopw[3,5,8] (λu _ i wr=>∃(k:Nat) (gs:List Nat),k<=on.length/\i=.int .i64 k/\qN 23 3 wr w.heap.size u (on.take k) gs/\Below w.heap.size w wr) (λ_ _ i _=>on.length - (RowKit.intOf i).toNat)
 case atStart=>exact⟨0,[],aN _,rfl,qN.nil,aj _ _⟩
 case round=>
  obtain⟨k,gs,hk,rfl,mQ,hbw⟩:=hrel;by_cases hlt:k<on.length
  ·obtain⟨A',c',hok,MW,hcu,hsu⟩:=(hO.up hbw hbw.size).row hlt;have hrk:=hr k hlt;go_wp2_with (first|(at_builtin;refine bD ?_)|fail)
   refine(Tz _ _ _ hsu (by omega)).mono ?_
   rintro e W1 ⟨u,rfl,hu,hb1⟩;obtain⟨g,cu,rfl,hgb,hgl⟩:=hu.some_ hrk.1;obtain⟨vs',hV⟩:=mQ;have h1:=hV.1;have h2:=hV.2.1;have lZ:(on.take k).length<=1000:=aU (yE _ _) (by omega)
   have uo:=fD hbw hb1;go_wp2_with (first|(at_builtin;refine bD ?_)|fail)
   unfold Hid;refine jV _ rfl (.tmp 12) (.tmp 15) 35 23 rfl w.heap.size _ 1 24 underlying35 SQ rfl (by decide) (by decide) u3 vs' (.slice (some g) (fO on k).length cu) rfl ((h1.below hb1).alloc _) W1 1 rfl rfl (cell_one_new _ _ _) (VJ _ rfl) (by omega) (by have:=uo.size;simp;omega) ?_
   intro v2 w2 AZ hg2 ju1 jj0;have hpush:=Yn.push (by decide) hV (hb1.alloc hb1.size _) hgb ((hu.from_ hbw.size).alloc _) hg2 AZ
   rw[AU hlt,<- Zd hlt]at hpush
   have hbw2:=(uo.alloc uo.size (.cells #[.slice (some g) (fO on k).length cu] 23)).trans jj0;go_wp2_with fail;go_roundw
   case rel=>exact⟨k+1,_,by omega,by go_num,hpush,hbw2⟩
   case measure=>simp[dY];omega
  ·obtain rfl:k=on.length:=by omega
   rw[dR]at mQ
   go_wp2_with fail;go_ret
   exact⟨_,rfl,⟨gs,mQ⟩,hbw⟩
end
section
attribute [local go_sem] aV
theorem jnT(w:World)(v:Value)(on:List (List Int))(hv:KJ iW w w v on)(hn:on.length<=1000)(hr:∀k,k<on.length->0<(fO on k).length/\(fO on k).length<=1000):
  Calls prog 168 #[v] w (Gives (λu w'=>∃gs,qN 23 3 w' w u on gs) w):=by
 have hO:=hv;obtain⟨A,c,vs,rfl,hl,hvl,hA,Jk⟩:=hv;go_enter func168,ntmps168
 go_wp2_with fail;go_loopw[3,4] (λu i wr=>∃(k:Nat) (gs:List Nat),k<=on.length/\i=.int .i64 k/\qN 23 3 wr w.heap.size u (on.take k) gs/\Below w.heap.size w wr) (λ_ i _=>on.length - (RowKit.intOf i).toNat)
 case atStart=>exact⟨0,[],aN _,rfl,qN.nil,aj _ _⟩
 case round=>
  obtain⟨k,gs,hk,rfl,mQ,hbw⟩:=hrel;by_cases hlt:k<on.length
  ·obtain⟨A',c',hok,MW,hcu,hsu⟩:=(hO.up hbw hbw.size).row hlt;have hrk:=hr k hlt;have hA2:=hsu.at_;obtain⟨vs',hV⟩:=mQ;have h1:=hV.1;have h2:=hV.2.1;have lZ:(on.take k).length<=1000:=aU (yE _ _) (by omega)
   go_wp2_with (first|(at_builtin;refine bD ?_)|fail)
   unfold Hid;refine yH _ rfl (.tmp 12) (.tmp 16) 23 3 rfl wr.heap.size _ 1 8 underlying23 zS rfl (by decide) (by decide) (.slice (some wr) 0 0) ([]:List Int) (fO on k) rfl (Own.Xg wr _ (ay _)) A' c' wr rfl (λ_=>rfl)
    (hA2.up ((aj _ _).alloc (ay _) _) (ay _)) (λy=>Dv y) (by simp;omega) (by simp) ?_
   intro v1 w1 yK hg1 jc6 Gt;rw[fJ]at yK
   obtain⟨g,cu,rfl,hgb,hgl⟩:=yK.some_ hrk.1;have hb1:Below wr wr w1:=((aj _ _).alloc (ay _) _).trans Gt;have uo:=fD hbw hb1;go_wp2_with (first|(at_builtin;refine bD ?_)|fail)
   unfold Hid;refine jV _ rfl (.tmp 11) (.tmp 18) 35 23 rfl w.heap.size _ 1 24 underlying35 SQ rfl (by decide) (by decide) u3 vs' (.slice (some g) (fO on k).length cu) rfl ((h1.below hb1).alloc _) w1 1 rfl rfl (cell_one_new _ _ _) (VJ _ rfl) (by omega) (by have:=uo.size;simp;omega) ?_
   intro v2 w2 AZ hg2 ju1 jj0;have hpush:=Yn.push (by decide) hV (hb1.alloc hb1.size _) hgb ((yK.from_ hbw.size).alloc _) hg2 AZ
   rw[AU hlt,<- Zd hlt]at hpush
   have hbw2:=(uo.alloc uo.size (.cells #[.slice (some g) (fO on k).length cu] 23)).trans jj0;go_wp2_with fail;go_roundw
   case rel=>exact⟨k+1,_,by omega,by go_num,hpush,hbw2⟩
   case measure=>simp[dY];omega
  ·obtain rfl:k=on.length:=by omega
   rw[dR]at mQ
   go_wp2_with fail;go_ret
   exact⟨_,rfl,⟨gs,mQ⟩,hbw⟩
end
section
attribute [local go_sem] aV
theorem jrd(w:World):Calls prog 19 #[] w (Gives (λu w'=>kK w' w' u VU) w):=by
 go_enter func19,ntmps19
 go_wp2_with fail;refine bV (v:=.agg #[.slice (some ⟨w.heap.size+1,0,none⟩) 3 3,.slice (some ⟨w.heap.size+1+1,0,none⟩) 2 2]) (by simp[results,results19,go_sem]) rfl ?_
 have b1:=Own.lit (aT:=0) (enc:=Qv) (size:=4) (w.alloc (.cells #[.slice (some ⟨w.heap.size+1,0,none⟩) 3 3,.slice (some ⟨w.heap.size+1+1,0,none⟩) 2 2] 25)) 66
  #[.bool false, .int .i64 100, zI, zI, .bool true, .int .i64 30, .int .i64 4, .int .i64 8, .bool false, .int .i64 60, zI, zI] VU.dP (aN _) (by decide) (λ_ => rfl) rfl
 have b2:=b1.alloc (.cells #[.int .i64 2,.int .i64 3] 3);have b3:=Own.lit (aT:=0) (enc:=iW) (size:=1) ((w.alloc (.cells #[.slice (some ⟨w.heap.size+1,0,none⟩) 3 3,.slice (some ⟨w.heap.size+1+1,0,none⟩) 2 2] 25)).alloc
  (.cells #[.bool false,.int .i64 100,zI,zI,.bool true,.int .i64 30,.int .i64 4,.int .i64 8,.bool false,.int .i64 60,zI,zI] 66)) 3 #[.int .i64 2,.int .i64 3] VU.aW (aN _) (by decide) (λ_=>rfl) rfl
 simp only[dK]at b2 b3
 exact⟨_,rfl,⟨_,_,rfl,b2.sl (by decide),b3.sl (by decide)⟩,(((aj _ _).alloc (ay _) _).alloc (by simp) _).alloc (by simp;omega) _⟩
end
section
attribute [local go_sem] aV
theorem jeA(p:dG)(x:Line):(iO p x.dW=false/\ug p x=false)\/(iO p x.dW=true/\x.jk<1/\ug p x=false)\/(iO p x.dW=true/\1<=x.jk/\200<x.jk/\ug p x=false)\/
  (iO p x.dW=true/\1<=x.jk/\x.jk<=200/\x.qI<0/\ug p x=false)\/(iO p x.dW=true/\1<=x.jk/\x.jk<=200/\0<=x.qI/\x.jk<x.qI/\ug p x=false)\/
  (iO p x.dW=true/\1<=x.jk/\x.jk<=200/\0<=x.qI/\x.qI<=x.jk/\x.eU<0/\ug p x=false)\/(iO p x.dW=true/\1<=x.jk/\x.jk<=200/\0<=x.qI/\x.qI<=x.jk/\0<=x.eU/\x.jk<x.eU/\ug p x=false)\/
  (iO p x.dW=true/\1<=x.jk/\x.jk<=200/\0<=x.qI/\x.qI<=x.jk/\0<=x.eU/\x.eU<=x.jk/\ug p x=true):=by
 have h1:=@rO p x;have h2:=@wI p x.dW;cases hl:ug p x<;>cases hg:iO p x.dW<;>simp only[hl,hg,iV,wB,uX]at h1 h2<;>simp only[reduceCtorEq,oJ,ni,false_and,ql,lC,xP]<;>omega
theorem jpZ(w:World)(v:Value)(p:dG)(x:Line)(hp:kK w w v p)(hz:fU p=0):
  Calls prog 184 #[v,JQ x] w λe w'=>e=.returned (.bool (ug p x))/\Below w w w':=by
 have hP:=hp;obtain⟨_,_,rfl,⟨Ab,cb,rfl,hlb,hb⟩,⟨As,cs,rfl,hls,hs⟩⟩:=hp;have hb1:lK p 0=true:=zA.2 (by have:=oI hz;omega)
 have hb0:Below w w ((w.alloc (kD p Ab cb As cs)).alloc (xZ x)):=((aj _ _).alloc (ay _) _).alloc (by simp) _
 unfold JQ;rcases jeA p x with⟨g1,hf⟩|⟨g1,g2,hf⟩|⟨g1,g2,g3,hf⟩|⟨g1,g2,g3,g4,hf⟩|⟨g1,g2,g3,g4,g5,hf⟩|⟨g1,g2,g3,g4,g5,g6,hf⟩|⟨g1,g2,g3,g4,g5,g6,g7,hf⟩|⟨g1,g2,g3,g4,g5,g6,g7,hf⟩
 all_goals
  have hth:(lK p 0&&iO p x.dW)=(iO p x.dW):=by rw[hb1];rfl
  have jaZ:=ah hth;clear hth;have hf':=ah hf;clear hf;go_enter func184,ntmps184
  go_wp2_with fail;refine(KU _ _ p 0 x.dW (hP.grow hb0)).mono ?_
  rintro e W1 ⟨rfl,hc1⟩;have hB:=fD hb0 hc1;obtain⟨ha1,hf1⟩:=yt hc1;rw[jaZ.O,g1];go_wp2_with fail;go_ret
  exact⟨gK (by rw[hf'.O]<;>first|rfl|(simp<;>omega)),hB⟩
theorem jie(w:World)(v vl:Value)(p:dG)(l:List Int)(lo:Int)(hp:kK w w v p)(hl:Sl iW w w vl l)(hz:fU p=0):
  Calls prog 191 #[v,vl,lo] w λe w'=>e=.returned (.bool (vF p l lo))/\Below w w w':=by
 have hP:=hp;obtain⟨_,_,rfl,⟨Ab,cb,rfl,hlb,hb⟩,⟨As,cs,rfl,hls,hs⟩⟩:=hp;have hL:=hl;obtain⟨A,c,rfl,hll,hA⟩:=hl;have hcnt:=oI hz;have hb0:Below w w (w.alloc (kD p Ab cb As cs)):=(aj _ _).alloc (ay _) _;rcases jd1 (p:=p) l lo (by omega)with⟨h1,h⟩|⟨h1,h2,h⟩|⟨h1,h2,h3,h⟩|⟨h1,h2,h3,h⟩
 ·have hne:((l.length:Int)==(p.aW.length:Int))=false:=by simp;omega
  have h':=ah h;clear h h1;go_enter func191,ntmps191
  go_wp2_with fail;go_ret
  exact⟨gK (by rw[h'.O]),hb0⟩
 all_goals
  have hne:((l.length:Int)==(p.aW.length:Int))=true:=by simp;omega
  have wU:0<l.length:=by omega
  have h':=ah h;clear h h1;go_enter func191,ntmps191
  go_wp2_with (first|(go_at_call 23;refine(jh3 _ _ l (hL.grow hb0) wU).mono ?_;rintro e w' ⟨rfl,rfl⟩)|(go_at_call 24;refine(jh4 _ _ l (hL.grow hb0) wU).mono ?_;rintro e w' ⟨rfl,rfl⟩))
  go_ret
  exact⟨gK (by rw[h'.O]<;>first|rfl|(simp<;>omega)),hb0⟩
theorem jbW(p:dG)(x:Line)(W:World)(B:Nat)(hz:fU p=0)(Ab As:Option Addr)(cb cs:Nat)(h0:W.cell? B=some (.slice Ab p.dP.length cb))(h1:W.cell? ⟨B,1,none⟩=some (.slice As p.aW.length cs))(hB:B<W.heap.size)
  (hP:kK W W (.agg (xu p Ab cb As cs)) p):
  Calls prog 183 #[JQ x,.pointer (some B)] W λe W'=>e=.returned (.bool (!ug p x))/\Below W W W':=by
 have hb0:Below W W (W.alloc (xZ x)):=(aj _ _).alloc (ay _) _;have hz':=ah hz;clear hz;unfold JQ;go_enter func183,ntmps183
 go_wp2_with fail;refine(jpZ _ _ p x (hP.grow hb0) hz'.O).mono ?_
 rintro e W1 ⟨rfl,hc1⟩;go_wp2_with fail;go_ret
 exact⟨rfl,fD hb0 hc1⟩
theorem QJ:Enters prog 183:=enters_of func183 (by kernel_rfl) rfl
theorem Tc(p:dG)(s:aI)(h:eX):((s.ak.length:Int)<=h.aC/\zy p s h=false)\/(h.aC<s.ak.length/\((s.aC h.aC.toNat).aH.length:Int)<=h.aK/\zy p s h=false)\/
  (h.aC<s.ak.length/\h.aK<(s.aC h.aC.toNat).aH.length/\(p.dP.length:Int)<=h.bin/\zy p s h=false)\/(h.aC<s.ak.length/\h.aK<(s.aC h.aC.toNat).aH.length/\h.bin<p.dP.length/\zy p s h=true):=by
 have h1:=@og p s h;cases hl:zy p s h<;>simp only[hl,iV,wB,uX]at h1<;>simp only[reduceCtorEq,ni,ql,lC,xP]<;>omega
theorem jk8(p:dG)(s:aI)(h:eX)(W:World)(Bs Bp:Nat)(A1 Ab:Option Addr)(c1 cb:Nat)(hs1:W.cell? ⟨Bs,1,none⟩=some (.slice A1 s.ak.length c1))(hp0:W.cell? Bp=some (.slice Ab p.dP.length cb))(hBs:Bs<W.heap.size)(hBp:Bp<W.heap.size)
  (hO:oW W W (.slice A1 s.ak.length c1) s.ak) (h0:0<=h.aC) (h72:s.ak.length<=1000) (Ug:∀o,o<s.ak.length->(bK s.ak o).aH.length<=1000):
  Calls prog 185 #[uK h,.pointer (some Bs),.pointer (some Bp)] W λe W'=>e=.returned (.bool (zy p s h))/\Below W W W':=by
 have hb0:Below W W (W.alloc (nC h)):=(aj _ _).alloc (ay _) _;have hlW:W.heap.size<(W.alloc (nC h)).heap.size:=by simp
 have q0:=λo d os=>cZ (w:=W.alloc (nC h)) (b:=Bs) (by simp;omega) o d os
 have q1:=λo d os=>cZ (w:=W.alloc (nC h)) (b:=Bp) (by simp;omega) o d os
 have q2:=λo d os=>cZ (w:=W.alloc (nC h)) (b:=W.heap.size) hlW o d os
 unfold uK;rcases Tc p s h with⟨g1,hf⟩|⟨g1,g2,hf⟩|⟨g1,g2,g3,hf⟩|⟨g1,g2,g3,hf⟩
 ·have hf':=ah hf;have d1:decide (h.aC<(s.ak.length:Int))=false:=by simpa using g1
  clear hf Ug;go_enter func185,ntmps185
  go_wp2_with fail;refine dO (by kernel_rfl) (by kernel_rfl) ?_
  repeat(go_big_quiet_step (fail))
  refine wpQuiet_nil ?_
  intro W2 hw';have hb2:=dN hw';clear hw';go_wp2_with fail;go_ret
  exact⟨gK (by rw[hf'.O]),fD hb0 hb2⟩
 ·have hf':=ah hf;have hol:h.aC.toNat<s.ak.length:=by omega
  obtain⟨A',c',I8,Gv,_,e1,hsl⟩:=hO.aC hol;have hll:=Ug _ hol;unfold aI.aC at g2
  have q3:=λo d os=>cZ (w:=W.alloc (nC h)) (b:=iH A1) (by simp;omega) o d os
  have d1:decide (h.aC<(s.ak.length:Int))=true:=by simpa using g1
  have d2:decide (h.aK<((bK s.ak h.aC.toNat).aH.length:Int))=false:=by simpa using g2
  clear hf Ug;go_enter func185,ntmps185
  go_wp2_with fail;refine dO (by kernel_rfl) (by kernel_rfl) ?_
  repeat(go_big_quiet_step (fail))
  refine wpQuiet_nil ?_
  intro W2 hw';have hb2:=dN hw';clear hw';go_wp2_with fail;go_ret
  exact⟨gK (by rw[hf'.O]<;>first|rfl|(simp<;>omega)),fD hb0 hb2⟩
 ·have hf':=ah hf;have hol:h.aC.toNat<s.ak.length:=by omega
  obtain⟨A',c',I8,Gv,_,e1,hsl⟩:=hO.aC hol;have hll:=Ug _ hol;unfold aI.aC at g2
  have q3:=λo d os=>cZ (w:=W.alloc (nC h)) (b:=iH A1) (by simp;omega) o d os
  have d1:decide (h.aC<(s.ak.length:Int))=true:=by simpa using g1
  have d2:decide (h.aK<((bK s.ak h.aC.toNat).aH.length:Int))=true:=by simpa using g2
  have d3:decide (h.bin<(p.dP.length:Int))=false:=by simpa using g3
  clear hf Ug;go_enter func185,ntmps185
  go_wp2_with fail;refine dO (by kernel_rfl) (by kernel_rfl) ?_
  repeat(go_big_quiet_step (fail))
  refine wpQuiet_nil ?_
  intro W2 hw';have hb2:=dN hw';clear hw';go_wp2_with fail;go_ret
  exact⟨gK (by rw[hf'.O]<;>first|rfl|(simp<;>omega)),fD hb0 hb2⟩
 ·have hf':=ah hf;have hol:h.aC.toNat<s.ak.length:=by omega
  obtain⟨A',c',I8,Gv,_,e1,hsl⟩:=hO.aC hol;have hll:=Ug _ hol;unfold aI.aC at g2
  have q3:=λo d os=>cZ (w:=W.alloc (nC h)) (b:=iH A1) (by simp;omega) o d os
  have d1:decide (h.aC<(s.ak.length:Int))=true:=by simpa using g1
  have d2:decide (h.aK<((bK s.ak h.aC.toNat).aH.length:Int))=true:=by simpa using g2
  have d3:decide (h.bin<(p.dP.length:Int))=true:=by simpa using g3
  clear hf Ug;go_enter func185,ntmps185
  go_wp2_with fail;refine dO (by kernel_rfl) (by kernel_rfl) ?_
  repeat(go_big_quiet_step (fail))
  refine wpQuiet_nil ?_
  intro W2 hw';have hb2:=dN hw';clear hw';go_wp2_with fail;go_ret
  exact⟨gK (by rw[hf'.O]<;>first|rfl|(simp<;>omega)),fD hb0 hb2⟩
end
end Wh
namespace Wh
open Go Go.RowKit Go.Proofs Tryz
section
section
variable {α:Type} {enc:α→List Value} {size:Nat} {e:TypeId} {w:World} {aT:Nat} {v:Value} {l:List α}
theorem Own.at(h:Own enc size e w aT v l)(hk:∀x,(enc x).length=size){i:Nat}(hi:i<l.length):
  ∃g c cur,v=.slice (some ⟨g,0,none⟩) l.length c/\aT<=g/\iJ w g e cur/\∀j u,(enc l[i])[j]?=some u->w.cell? ⟨g,i*size+j,none⟩=some u:=by
 obtain⟨g,c,cur,h1,h2,h3,h4,h5,h6,h7⟩:=h.row (by omega)
 refine⟨g,c,cur,h1,h2,h3,λj u hj=>h3.cell ?_⟩
 have hjs:j<size:=by
  have:=(fA.1 hj).1
  rwa [hk]at this
 have hf:=O8 enc size hk l i j l[i] (by simp[hi]) hjs
 rw[<- h7]at hf
 rw[<- hj,<- hf,jG]
 rw[aB];calc i*size+j<i*size+size:=by omega
  _=(i+1)*size:=by rw[jS];omega
  _<=l.length*size:=kE _ (by omega)
end
theorem iJ.ne{w:World}{g g':Nat}{e e':TypeId}{cur cur':List Value}(h:iJ w g e cur)(h':iJ w g' e' cur')(hne:e≠e'):g≠g':=by
 rintro rfl;unfold iJ at h h'
 rw[h]at h'
 injection h' with h'
 injection h' with _ h3
 exact hne h3
theorem jB.off{w w':World}{b g:Nat}{V:SV}{e:TypeId}{cur:List Value}(h:jB w b V)(hg:w.grownBy w' (some g))(hb:iJ w g e cur)(hne:e≠40):jB w' b V:=
 h.grown hg (by intro he;injection he with he;exact hb.ne h.blk hne he.symm)
namespace dX
variable {w w':World} {aT:Nat} {V:SV} {s:aI}
theorem yL(h:dX w aT V s){k:Nat}(hk:k<s.aA.length):∃g c cur,V.aA=.slice (some ⟨g,0,none⟩) s.aA.length c/\aT<=g/\iJ w g 116 cur/\
  w.cell? ⟨g,k*4,none⟩=some (.int .i64 (hold s.aA k).aC)/\w.cell? ⟨g,k*4+1,none⟩=some (.int .i64 (hold s.aA k).aK)/\w.cell? ⟨g,k*4+2,none⟩=some (.int .i64 (hold s.aA k).bin)/\w.cell? ⟨g,k*4+3,none⟩=some (.int .i64 (hold s.aA k).n):=by
 obtain⟨g,c,cur,h1,h2,h3,h4⟩:=h.aA.at (λ_=>rfl) hk
 have e:s.aA[k]=hold s.aA k:=by simp[hold,hk]
 rw[e]at h4
 exact⟨g,c,cur,h1,h2,h3,h4 0 _ rfl,h4 1 _ rfl,h4 2 _ rfl,h4 3 _ rfl⟩
theorem bZ(h:dX w aT V s){k:Nat}(hk:k<s.aF.length):∃g c cur,V.aF=.slice (some ⟨g,0,none⟩) s.aF.length c/\aT<=g/\iJ w g 118 cur/\
  w.cell? ⟨g,k*4,none⟩=some (.int .i64 (Wh.bZ s.aF k).dW)/\w.cell? ⟨g,k*4+1,none⟩=some (.int .i64 (Wh.bZ s.aF k).src)/\w.cell? ⟨g,k*4+2,none⟩=some (.int .i64 (Wh.bZ s.aF k).dst)/\w.cell? ⟨g,k*4+3,none⟩=some (.int .i64 (Wh.bZ s.aF k).n):=by
 obtain⟨g,c,cur,h1,h2,h3,h4⟩:=h.aF.at (λ_=>rfl) hk
 have e:s.aF[k]=Wh.bZ s.aF k:=by simp[Wh.bZ,hk]
 rw[e]at h4
 exact⟨g,c,cur,h1,h2,h3,h4 0 _ rfl,h4 1 _ rfl,h4 2 _ rfl,h4 3 _ rfl⟩
theorem bK(h:dX w aT V s){o:Nat}(ho:o<s.ak.length):∃g c cur,V.ak=.slice (some ⟨g,0,none⟩) s.ak.length c/\aT<=g/\iJ w g 114 cur/\
  w.cell? ⟨g,o*2,none⟩=some (.int .i64 (s.aC o).eH)/\w.cell? ⟨g,o*2+1,none⟩=some (V.aK o):=by
 have hol:o<(AV s.ak V.aH).length:=by rw[vg h.llen];exact ho
 obtain⟨g,c,cur,h1,h2,h3,h4⟩:=h.ak.at (λ_=>rfl) hol
 have e:(AV s.ak V.aH)[o]=((s.aC o).eH,V.aK o):=by
  have:=jcj h.llen ho;rw[bQ hol]at this
  exact lF this
 rw[e]at h4
 rw[vg h.llen]at h1
 exact⟨g,c,cur,h1,h2,h3,h4 0 _ rfl,h4 1 _ rfl⟩
theorem fG(h:dX w aT V s){o k:Nat}(ho:o<s.ak.length)(hk:k<(s.aC o).aH.length):∃g c cur,V.aK o=.slice (some ⟨g,0,none⟩) (s.aC o).aH.length c/\aT<=g/\iJ w g 106 cur/\
  w.cell? ⟨g,k*4,none⟩=some (.int .i64 (s.aK o k).dW)/\w.cell? ⟨g,k*4+1,none⟩=some (.int .i64 (s.aK o k).jk)/\w.cell? ⟨g,k*4+2,none⟩=some (.int .i64 (s.aK o k).qI)/\w.cell? ⟨g,k*4+3,none⟩=some (.int .i64 (s.aK o k).eU):=by
 obtain⟨g,c,cur,h1,h2,h3,h4⟩:=(h.aK o ho).at (λ_=>rfl) hk
 have e:(s.aC o).aH[k]=s.aK o k:=by unfold aI.aK;simp[Wh.fG,hk]
 rw[e]at h4
 exact⟨g,c,cur,h1,h2,h3,h4 0 _ rfl,h4 1 _ rfl,h4 2 _ rfl,h4 3 _ rfl⟩
theorem QZ(h:dX w aT V s){b g:Nat}(hb:b<s.on.length)(hg:g<(fO s.on b).length):∃go co RS gr cr cur,V.on=.slice (some ⟨go,0,none⟩) s.on.length co/\aT<=go/\iJ w go 23 RS/\w.cell? ⟨go,b,none⟩=some (.slice (some ⟨gr,0,none⟩) (fO s.on b).length cr)/\
  V.row b=.slice (some gr) (fO s.on b).length cr/\aT<=gr/\iJ w gr 3 cur/\w.cell? ⟨gr,g,none⟩=some (.int .i64 (cell s.on b g)):=by
 have hbl:b<V.rows.length:=by rw[h.rlen];exact hb
 obtain⟨go,co,RS,h1,h2,h3,h4⟩:=h.on.at (λ_=>rfl) hbl
 obtain⟨gr,cr,cur,k1,k2,k3,k4⟩:=(h.row b hb).at (λ_=>rfl) hg
 have e:V.rows[b]=V.row b:=by unfold SV.row;simp[hbl]
 have h5:=h4 0 (V.row b) (by rw[e];rfl)
 have e2:(fO s.on b)[g]=cell s.on b g:=by unfold cell aZ;simp[hg]
 have k5:=k4 0 ((cell s.on b g)) (by rw[e2];rfl)
 rw[sS,fZ]at h5 k5
 rw[h.rlen]at h1
 rw[k1]at h5
 exact⟨go,co,RS,gr,cr,cur,h1,h2,h3,h5,k1,k2,k3,k5⟩
theorem CU{v:Value}{l:List Int}(h:Own iW 1 3 w aT v l){g:Nat}(hg:g<l.length):∃gr c cur,v=.slice (some ⟨gr,0,none⟩) l.length c/\aT<=gr/\iJ w gr 3 cur/\w.cell? ⟨gr,g,none⟩=some (.int .i64 (aZ l g)):=by
 obtain⟨gr,c,cur,k1,k2,k3,k4⟩:=h.at (λ_=>rfl) hg
 have e2:l[g]=aZ l g:=by unfold aZ;simp[hg]
 have k5:=k4 0 ((aZ l g)) (by rw[e2];rfl)
 rw[sS,fZ]at k5
 exact⟨gr,c,cur,k1,k2,k3,k5⟩
end dX
end
end Wh
