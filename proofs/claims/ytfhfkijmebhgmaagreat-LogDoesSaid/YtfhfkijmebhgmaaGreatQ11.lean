/- Texts of the claim, joined. -/
import Derived.Lib.SliceRun
import Derived.Deep.RegionLaw
import Derived.Test.YtfhfkijmebhgmaaGreatQ10
set_option maxHeartbeats 20000000
set_option maxRecDepth 100000
namespace Wh
open Go Go.RowKit Go.Shelf Go.Proofs Tryz
attribute [local go_sem] aT
theorem SA{p:dA}{on:List (List Int)}{b g:Int}(h:iO p on≠0):qW p on b g=iO p on:=by
 unfold qW;rw[aB h]
theorem Sz{p:dA}{on:List (List Int)}{b g:Int}(h:iO p on=0)(h2:(lV p b&&iK p g)=false):qW p on b g=3:=by
 unfold qW;simp[h,h2]
theorem XI{p:dA}{on:List (List Int)}{b g:Int}(h:iO p on=0)(h2:(lV p b&&iK p g)=true):qW p on b g=0:=by
 unfold qW;simp[h,h2]
theorem jdf(w:World)(v vo:Value)(p:dA)(on:List (List Int))(b g:Int)(hp:mW w w.heap.size v p)(ho:FW jJ w w.heap.size vo on):
  Calls prog 143 #[v,vo,.int .i64 b,.int .i64 g] w λe w'=>e=.returned (.int .i64 (qW p on b g))/\Below w.heap.size w w':=by
 have hP:=hp;have hO:=ho;obtain⟨_,_,rfl,⟨Ab,cb,rfl,hlb,hb⟩,⟨As,cs,rfl,hls,hs⟩⟩:=hp;have hb0:Below w.heap.size w (w.alloc (.cells #[.slice Ab p.bQ.length cb,.slice As p.aP.length cs] 25)):=(aj _ _).alloc (au _) _;go_enter func143,ntmps143
 go_wp2_with fail;refine(Vk _ _ vo p on (hP.up hb0 hb0.size) (hO.up hb0 hb0.size)).mono ?_
 rintro e W1 ⟨rfl,hb1⟩;have hbw:=hb0.trans (hb1.mono (by simp))
 have hsz:=hb1.size;obtain⟨hc1,hf1⟩:=xH hb1;by_cases hz:iO p on=0
 ·go_wp2_with fail;refine(JI _ _ p b g (hP.up hbw hbw.size)).mono ?_
  rintro e W2 ⟨rfl,hb2⟩;have hbw2:=hbw.trans (hb2.mono hbw.size);cases ht:(lV p b&&iK p g)
  ·have bK:=ah (Sz hz ht);go_wp2_with fail;go_ret
   exact⟨iF bK.O.symm,hbw2⟩
  ·have bK:=ah (XI hz ht);go_wp2_with fail;go_ret
   exact⟨iF bK.O.symm,hbw2⟩
 ·have bK:=ah (SA (b:=b) (g:=g) hz);go_wp2_with fail;go_ret
  exact⟨iF bK.O.symm,hbw⟩
end Wh
namespace Wh
open Go Go.RowKit Go.Shelf Go.Proofs Tryz
attribute [local go_sem] aT
theorem jkj(w:World)(v vo:Value)(p:dA)(on:List (List Int))(b:Nat)(hp:mW w w.heap.size v p)(ho:FW jJ w w.heap.size vo on)(hz:iO p on=0)(hbn:b<p.bQ.length):
  Calls prog 157 #[v,vo,.int .i64 b] w λe w'=>e=.returned (.int .i64 (LJ p on b))/\Below w.heap.size w w':=by
 have hP:=hp;have hO:=ho;obtain⟨_,_,rfl,⟨Ab,cb,rfl,hlb,hb⟩,⟨As,cs,rfl,hls,hs⟩⟩:=hp;obtain⟨A,c,vs,rfl,hl,hvl,hA,G9⟩:=ho;have hb0:Below w.heap.size w (w.alloc (.cells #[.slice Ab p.bQ.length cb,.slice As p.aP.length cs] 25)):=(aj _ _).alloc (au _) _;have hbl:b<on.length:=by rw[OW hz];exact hbn
 have hcnt:=pJ (jZ.1 hz).1;have vS:=OV hz hbl;have hle:=jy vS.symm;have hR:=ah vS;clear vS;go_enter func157,ntmps157
 go_wp2_with fail;go_loopw[7,8] (λn i wr=>∃k:Nat,k<=p.aP.length/\i=.int .i64 k/\n=.int .i64 (nH (λg=>cell on b g*bI p.aP g) k)/\Below w.heap.size w wr/\w.heap.size<wr.heap.size/\wr.cell? ⟨w.heap.size,1,none⟩=some (.slice As p.aP.length cs)) (λ_ i _=>p.aP.length - (RowKit.intOf i).toNat)
 case atStart=>exact⟨0,aK _,rfl,rfl,hb0,by simp,by simp⟩
 case round=>
  obtain⟨k,hk,rfl,rfl,hbw,hsz,hc1⟩:=hrel;by_cases hlt:k<p.aP.length
  ·obtain⟨A',c',hok,LG,hcu,hsu⟩:=(hO.up hbw hbw.size).row hbl;obtain⟨hok2,PD,b2⟩:=hsu.at_.int (i:=k) (by rw[hR.O];exact hlt)
   obtain⟨hok3,hAb3,b3⟩:=(hs.up hbw hbw.size).int hlt;obtain⟨u1,u2⟩:=U9 hz hbl hk;have hu2:nH (λg=>cell on b g*bI p.aP g) k<=9000:=by omega
   obtain⟨q1,q2⟩:=Vz (Gf hz hbl hlt) (zH (jZ.1 hz).1 hlt);unfold cell at q1 q2
   clear u2;have hlr:k<(fO on b).length:=by omega
   go_wp2_with fail;go_quiet (fail)
   go_wp2_with fail;go_roundw
   case rel=>exact⟨k+1,by omega,by go_num,rfl,below_drewN hbw _,hsz,hc1⟩
   case measure=>simp[RowKit.intOf];omega
  ·obtain rfl:k=p.aP.length:=by omega
   go_wp2_with fail;go_ret
   exact⟨rfl,hbw⟩
theorem jhm(w:World)(vo:Value)(p:dA)(on:List (List Int))(g:Nat)(ho:FW jJ w w.heap.size vo on)(hz:iO p on=0)(hgn:g<p.aP.length):
  Calls prog 91 #[vo,.int .i64 g] w λe w'=>e=.returned (.int .i64 (BU on g))/\w=w':=by
 have hO:=ho;obtain⟨A,c,vs,rfl,hl,hvl,hA,G9⟩:=ho;have hcnt:=pJ (jZ.1 hz).1;have kD:=OW hz;have hle:=jy kD;clear kD;go_enter func91,ntmps91
 go_wp2_with fail;go_loop[5,6] (λn i=>∃k:Nat,k<=on.length/\i=.int .i64 k/\n=.int .i64 (nH (λb=>cell on b g) k)) (λ_ i=>on.length - (RowKit.intOf i).toNat)
 case atStart=>exact⟨0,aK _,rfl,rfl⟩
 case round=>
  obtain⟨k,hk,rfl,rfl⟩:=hrel;by_cases hlt:k<on.length
  ·obtain⟨A',c',hok,LG,hcu,hsu⟩:=hO.row hlt;have hgr:g<(fO on k).length:=by rw[OV hz hlt];exact hgn
   obtain⟨hok2,PD,b2⟩:=hsu.at_.int hgr;obtain⟨u1,u2⟩:=Yn hz hgn hk;have hu2:nH (λb=>cell on b g) k<=9000:=by omega
   obtain⟨q1,q2⟩:=Gf hz hlt hgn;unfold cell at q1 q2
   clear u2;go_wp2_with fail;go_round
   case rel=>exact⟨k+1,by omega,by go_num,rfl⟩
   case measure=>simp[RowKit.intOf];omega
  ·obtain rfl:k=on.length:=by omega
   go_wp2_with fail;go_ret
   exact⟨rfl,rfl⟩
end Wh
namespace Wh
open Go Go.RowKit Go.Shelf Go.Proofs Tryz
attribute [local go_sem] aT
theorem jeM{p:dA}{on:List (List Int)}{g:Nat}(h:qW p on 0 g=0):jgV p on g=BU on g:=by
 unfold jgV;rw[aB h,bZ]
theorem jkb{p:dA}{on:List (List Int)}{g:Int}(h:qW p on 0 g≠0):jgV p on g=0:=by
 unfold jgV;rw[ay h]
theorem jg5(w:World)(v vo:Value)(p:dA)(on:List (List Int))(g:Int)(hp:mW w w.heap.size v p)(ho:FW jJ w w.heap.size vo on):
  Calls prog 82 #[v,vo,.int .i64 g] w λe w'=>e=.returned (.tuple #[.int .i64 (jgV p on g),.int .i64 (qW p on 0 g)])/\Below w.heap.size w w':=by
 have hP:=hp;have hO:=ho;obtain⟨_,_,rfl,⟨Ab,cb,rfl,hlb,hb⟩,⟨As,cs,rfl,hls,hs⟩⟩:=hp;obtain⟨A,c,vs,rfl,hl,hvl,hA,G9⟩:=ho;have hb0:Below w.heap.size w (w.alloc (.cells #[.slice Ab p.bQ.length cb,.slice As p.aP.length cs] 25)):=(aj _ _).alloc (au _) _;go_enter func82,ntmps82
 go_wp2_with fail;refine(jdf _ _ _ p on 0 g (hP.up hb0 hb0.size) (hO.up hb0 hb0.size)).mono ?_
 rintro e W1 ⟨rfl,hb1⟩;have hbw:=hb0.trans (hb1.mono (by simp))
 have hsz:=hb1.size;obtain⟨hc1,hf1⟩:=xH hb1;by_cases hz:qW p on 0 g=0
 ·obtain⟨hz1,hz2,hz3⟩:=MW.1 hz;have hbb:=vN.1 hz3;obtain⟨g',rfl⟩:∃n:Nat,g=n:=⟨g.toNat,by omega⟩
  have hgn:g'<p.aP.length:=by omega
  have hcnt:=pJ (jZ.1 hz1).1;have kD:=OW hz1;have hle:=jy kD;clear kD hbb hz2 hz3;have bK:=ah (jeM hz);have hz':=ah hz;go_wp2_with fail;clear hz;go_loop[9,21,11] (λn i _=>∃k:Nat,k<=on.length/\i=.int .i64 k/\n=.int .i64 (nH (λb=>cell on b g') k)) (λ_ i _=>on.length - (RowKit.intOf i).toNat)
  case atStart=>exact⟨0,aK _,rfl,rfl⟩
  case round=>
   obtain⟨k,hk,rfl,rfl⟩:=hrel;by_cases hlt:k<on.length
   ·obtain⟨A',c',hok,LG,hcu,hsu⟩:=(hO.up hbw hbw.size).row hlt;have hgr:g'<(fO on k).length:=by rw[OV hz1 hlt];exact hgn
    obtain⟨hok2,PD,b2⟩:=hsu.at_.int hgr;obtain⟨u1,u2⟩:=Yn hz1 hgn hk;have hu2:nH (λb=>cell on b g') k<=9000:=by omega
    obtain⟨q1,q2⟩:=Gf hz1 hlt hgn;unfold cell at q1 q2
    clear u2;go_wp2_with fail;go_round
    case rel=>exact⟨k+1,by omega,by go_num,rfl⟩
    case measure=>simp[RowKit.intOf];omega
   ·obtain rfl:k=on.length:=by omega
    go_wp2_with fail;go_ret2
    exact⟨jdj (by rw[bK.O];rfl) (by rw[hz'.O];rfl),hbw⟩
 ·have bK:=ah (jkb hz);have hz':=ah hz;go_wp2_with fail;go_ret2
  exact⟨jdj (by rw[bK.O];rfl) rfl,hbw⟩
end Wh
namespace Wh
open Go Go.RowKit Go.Shelf Go.Proofs Tryz
attribute [local go_sem] aT
theorem Rw:Elem prog 23 (.slice none 0 0) 1 24:=Iu (by kernel_rfl)
theorem RS(w:World)(v:Value)(l:List Int)(hv:Sl jJ w w.heap.size v l)(hn:l.length<=1000000):
  Calls prog 113 #[v] w (Gives (λu w'=>Own jJ 1 3 w' w.heap.size u l) w):=by
 obtain⟨A,c,rfl,hl,hA⟩:=hv;have qT:∀(w:World) (a:Option Addr) (n c n' c':Nat),(binOp .eql 23 (.slice a n c) (.slice none n' c')).run prog w=.ok (.bool a.isNone) w:=λw a n c n' c'=>Lib.run_eql_slice_nil w _ _ a n c n' c' underlying23
 cases A with
 |none=>
  have h0:l=[]:=by
   cases l with
   |nil=>rfl
   |cons x r=>exact absurd (hA.ok (by simp[jJ])) (by rintro⟨b,off,h⟩;cases h)
  subst h0;go_enter func113,ntmps113
  go_wp2_with (at_builtin;refine aW ?_)
  go_ret
  exact⟨_,rfl,Own.nil,aj _ _⟩
 |some ad=>
  go_enter func113,ntmps113
  go_wp2_with (at_builtin;refine aW ?_)
  unfold Hid;refine IV _ rfl (.tmp 5) (.tmp 6) 23 3 rfl w.heap.size _ 1 8 underlying23 L9 rfl (by decide) (by decide) (.slice (some ⟨w.heap.size,0,none⟩) 0 0) ([]:List Int) l rfl (Own.VQ w _ (au _)) (some ad) c w.heap.size rfl (λ_=>rfl)
   (hA.up ((aj _ _).alloc (au _) _) (au _)) (λy=>UU y) (by simpa using hn) (by simp) ?_
  intro v1 w1 yj hg1 jb7 FC;go_wp2_with fail;go_ret
  exact⟨_,rfl,by simpa using yj,((aj _ _).alloc (au _) _).trans FC⟩
theorem Dq{α:Type}{l:List α}{k:Nat}(h:k<l.length):l.take (k+1)=l.take k++[l[k]]:=by
 rw[dO h]
theorem UR(v:Value)(h:v.oneCell'=true):∀u∈(λx:Value=>[x]) v,u.oneCell'=true:=by simpa using h
theorem jg6(w:World)(v:Value)(on:List (List Int))(hv:FW jJ w w.heap.size v on)(hn:on.length<=1000)(hr:∀k,k<on.length->0<(fO on k).length/\(fO on k).length<=1000):
  Calls prog 110 #[v] w (Gives (λu w'=>∃gs,qM 23 3 w' w.heap.size u on gs) w):=by
 have hO:=hv;obtain⟨A,c,vs,rfl,hl,hvl,hA,G9⟩:=hv;go_enter func110,ntmps110
 go_wp2_with fail;go_loopw[3,5,8] (λu _ i wr=>∃(k:Nat) (gs:List Nat),k<=on.length/\i=.int .i64 k/\qM 23 3 wr w.heap.size u (on.take k) gs/\Below w.heap.size w wr) (λ_ _ i _=>on.length - (RowKit.intOf i).toNat)
 case atStart=>exact⟨0,[],aK _,rfl,qM.nil,aj _ _⟩
 case round=>
  obtain⟨k,gs,hk,rfl,lC,hbw⟩:=hrel;by_cases hlt:k<on.length
  ·obtain⟨A',c',hok,LG,hcu,hsu⟩:=(hO.up hbw hbw.size).row hlt;have hrk:=hr k hlt;go_wp2_with (first|(at_builtin;refine aW ?_)|fail)
   refine(RS _ _ _ hsu (by omega)).mono ?_
   rintro e W1 ⟨u,rfl,hu,hb1⟩;obtain⟨g,cu,rfl,hgb,hgl⟩:=hu.some_ hrk.1;obtain⟨vs',hV⟩:=lC;have h1:=hV.1;have h2:=hV.2.1;have kD:(on.take k).length<=1000:=aY (xU _ _) (by omega)
   have sF:=hbw.trans (hb1.mono hbw.size);go_wp2_with (first|(at_builtin;refine aW ?_)|fail)
   unfold Hid;refine lS _ rfl (.tmp 12) (.tmp 15) 26 23 rfl w.heap.size _ 1 24 underlying26 Rw rfl (by decide) (by decide) u3 vs' (.slice (some ⟨g,0,none⟩) (fO on k).length cu) rfl ((h1.below hb1).alloc _) ⟨W1.heap.size,0,none⟩ 1 rfl rfl (cell_one_new _ _ _) (UR _ rfl) (by omega) (by have:=sF.size;simp;omega) ?_
   intro v2 w2 yh hg2 jt2 ji3;have hpush:=Xt.push (by decide) hV (hb1.alloc hb1.size _) hgb ((hu.from_ hbw.size).alloc _) hg2 yh
   rw[xZ hlt,<- Dq hlt]at hpush
   have hbw2:=(sF.alloc sF.size (.cells #[.slice (some ⟨g,0,none⟩) (fO on k).length cu] 23)).trans ji3;go_wp2_with fail;go_roundw
   case rel=>exact⟨k+1,_,by omega,by go_num,hpush,hbw2⟩
   case measure=>simp[RowKit.intOf];omega
  ·obtain rfl:k=on.length:=by omega
   rw[fG]at lC
   go_wp2_with fail;go_ret
   exact⟨_,rfl,⟨gs,lC⟩,hbw⟩
end Wh
namespace Wh
open Go Go.RowKit Go.Shelf Go.Proofs Tryz
attribute [local go_sem] aT
theorem WX{α:Type}(enc:α->List Value)(l:List α)(k:Nat):(l.eraseIdx k).flatMap enc=(l.take k).flatMap enc++(l.drop (k+1)).flatMap enc:=by
 rw[nT,gy]
theorem yc:Elem prog 46 (.agg #[.int .i64 0,.int .i64 0,.int .i64 0,.int .i64 0]) 4 32:=Iu (by kernel_rfl)
theorem zu(x:dZ):∀u∈ig x,u.oneCell'=true:=by simp[ig,Value.oneCell']
theorem Lj(w:World)(v:Value)(l:List dZ)(hv:Sl ig w w.heap.size v l)(hn:l.length<=1000000):
  Calls prog 111 #[v] w (Gives (λu w'=>Own ig 4 46 w' w.heap.size u l) w):=by
 obtain⟨A,c,rfl,hl,hA⟩:=hv;have qT:∀(w:World) (a:Option Addr) (n c n' c':Nat),(binOp .eql 28 (.slice a n c) (.slice none n' c')).run prog w=.ok (.bool a.isNone) w:=λw a n c n' c'=>Lib.run_eql_slice_nil w _ _ a n c n' c' underlying28
 cases A with
 |none=>
  have h0:l=[]:=by
   cases l with
   |nil=>rfl
   |cons x r=>exact absurd (hA.ok (by simp[ig])) (by rintro⟨b,off,h⟩;cases h)
  subst h0;go_enter func111,ntmps111
  go_wp2_with (at_builtin;refine aW ?_)
  go_ret
  exact⟨_,rfl,Own.nil,aj _ _⟩
 |some ad=>
  go_enter func111,ntmps111
  go_wp2_with (at_builtin;refine aW ?_)
  unfold Hid;refine IV _ rfl (.tmp 5) (.tmp 6) 28 46 rfl w.heap.size _ 4 32 underlying28 yc rfl (by decide) (by decide) (.slice (some ⟨w.heap.size,0,none⟩) 0 0) ([]:List dZ) l rfl (Own.VQ w _ (au _)) (some ad) c w.heap.size rfl (λ_=>rfl)
   (hA.up ((aj _ _).alloc (au _) _) (au _)) (λy=>zu y) (by simpa using hn) (by simp) ?_
  intro v1 w1 yj hg1 jb7 FC;go_wp2_with fail;go_ret
  exact⟨_,rfl,by simpa using yj,((aj _ _).alloc (au _) _).trans FC⟩
theorem jaO(w:World):(zeroValue 46).run prog w=.ok (.agg #[.int .i64 0,.int .i64 0,.int .i64 0,.int .i64 0]) w:=by kernel_rfl
theorem jls(w:World)(aO:Nat)(v:Value)(l:List dZ)(k:Nat)(lC:Own ig 4 46 w aO v l)(hk:k<l.length)(hn:l.length<=1000000):
  Calls prog 155 #[v,.int .i64 k,.int .i64 ((k:Int)+1)] w λe w'=>
   ∃v',e=.returned v'/\Own ig 4 46 w' aO v' (l.eraseIdx k)/\w.grownBy w' v.ownBlock/\v'.ownBlock=v.ownBlock:=by
 obtain⟨g,cap,cur,rfl,hbg,hg,hlc,hcm,hcs,htake⟩:=lC.row (by omega)
 obtain⟨i0,hi0,hz0,lg,jiQ⟩:=yc;have hk4:∀x,(ig x).length=4:=λ_=>rfl
 obtain⟨cs,WC⟩:∃cs,cs=(l.drop (k+1)).flatMap ig:=⟨_,rfl⟩;have hcl:cs.length=(l.length - (k+1))*4:=by rw[WC,kL ig 4 hk4,fQ]
 have hc1:∀u∈cs,u.oneCell'=true:=λu hu=>by
  rw[WC]at hu
  obtain⟨y,_,hy⟩:=oL.1 hu;exact zu y u hy
 obtain⟨A,hA,hsrc⟩:∃A:Addr,(if cap=k+1 then some (⟨g,0,none⟩:Addr)else some ⟨g,(k+1)*4,none⟩)=some A/\Hid (∀j u,cs[j]?=some u->w.drew.cell? (A.add j)=some u):=by
  by_cases h:cap=k+1
  ·refine⟨⟨g,0,none⟩,by rw[aB h],λj u hj=>?_⟩
   have:=(eF.1 hj).1
   omega
  ·refine⟨⟨g,(k+1)*4,none⟩,by rw[ay h],λj u hj=>?_⟩
   rw[gU];refine hg.drew.cell ?_
   have hjl:=(eF.1 hj).1
   have e1:(cur.take (l.length*4))[(k+1)*4+j]?=some u:=by
    rw[htake,<- mO,IL ig 4 hk4,<- WC]
    exact hj
   rw[gJ]at e1
   split at e1
   ·exact e1
   ·cases e1
 have hzl:∀n,(Builtin.zeroCells #[.int .i64 0,.int .i64 0,.int .i64 0,.int .i64 0] n).toList.length=n*4:=λn=>by rw[nG];exact xK _ n
 have hcur:l.length*4<=cur.length:=by rw[hcs];exact mY _ hlc
 have hrun:∀ty,(Builtin.append_ #[28,28] ty #[.slice (some ⟨g,0,none⟩) k cap,.slice (some A) (l.length - (k+1)) (cap - (k+1))]).run prog w.drew=
   .ok (.slice (some ⟨g,0,none⟩) (k+(l.length - (k+1))) cap) (w.drew.setRow g (spl cur (k*4) cs).toArray):=λty=>by
  have h:=NC (P:=prog) w.drew 28 ty 46 i0 underlying28 hi0 g k cap (.slice (some A) (l.length - (k+1)) (cap - (k+1))) (l.length - (k+1)) cs cur hg.drew rfl
   (by rw[lg];exact qP w.drew 4 _ A _ _ cs hcl hsrc.O) (by omega) (by rw[lg,hcl];omega) hc1
  rw[lg]at h
  exact h
 obtain⟨W1,hW1⟩:∃W1,W1=w.drew.setRow g (spl cur (k*4) cs).toArray:=⟨_,rfl⟩;rw[<- hW1]at hrun
 have hg1:iV W1 g 46 (spl cur (k*4) cs):=by rw[hW1];exact hg.drew.row _
 have hl1:(spl cur (k*4) cs).length=cur.length:=zG (by rw[hcl];omega)
 have jiP:∀ty,(Builtin.clear_ #[28] ty #[.slice (some ⟨g,(k+(l.length - (k+1)))*4,none⟩) (l.length - (k+(l.length - (k+1)))) (cap - (k+(l.length - (k+1))))]).run prog W1=
   .ok (.tuple #[]) (W1.setRow g (spl (spl cur (k*4) cs) ((k+(l.length - (k+1)))*4) (Builtin.zeroCells #[.int .i64 0,.int .i64 0,.int .i64 0,.int .i64 0] (l.length - (k+(l.length - (k+1))))).toList).toArray):=λty=>
  Kr (P:=prog) W1 28 46 ty _ underlying28 jaO (by simp[Value.cells,Value.oneCell']) g _ _ _ _ hg1 (by omega) (by rw[hl1];simp[Value.cells];omega)
 have bK:∃jaw,iV (W1.setRow g (spl (spl cur (k*4) cs) ((k+(l.length - (k+1)))*4) (Builtin.zeroCells #[.int .i64 0,.int .i64 0,.int .i64 0,.int .i64 0] (l.length - (k+(l.length - (k+1))))).toList).toArray) g 46 jaw/\jaw.length=cap*4/\jaw.take ((l.eraseIdx k).length*4)=(l.eraseIdx k).flatMap ig:=by
  refine⟨_,hg1.row _,?_,?_⟩
  ·rw[zG (by rw[hl1,hzl];omega),hl1,hcs]
  ·have e1:(l.eraseIdx k).length*4=(k+(l.length - (k+1)))*4:=by rw[qC,aB hk];omega
   rw[e1,Zq (by rw[hl1];omega)]
   have e2:(k+(l.length - (k+1)))*4=k*4+cs.length:=by rw[hcl,ku]
   rw[e2,Zr (by omega),WX,WC]
   congr 1
   have e3:cur.take (k*4)=(cur.take (l.length*4)).take (k*4):=by rw[oC,jS (by omega)]
   rw[e3,htake,Gv ig 4 hk4]
 have hgr:w.grownBy (W1.setRow g (spl (spl cur (k*4) cs) ((k+(l.length - (k+1)))*4) (Builtin.zeroCells #[.int .i64 0,.int .i64 0,.int .i64 0,.int .i64 0] (l.length - (k+(l.length - (k+1))))).toList).toArray) (some g):=by
  rw[hW1];have g1:=yU w.drew g (spl cur (k*4) cs).toArray;have g2:=yU (w.drew.setRow g (spl cur (k*4) cs).toArray) g (spl (spl cur (k*4) cs) ((k+(l.length - (k+1)))*4) (Builtin.zeroCells #[.int .i64 0,.int .i64 0,.int .i64 0,.int .i64 0] (l.length - (k+(l.length - (k+1))))).toList).toArray;exact⟨g2.os.trans g1.os,g2.tape.trans g1.tape,g2.output.trans g1.output,aY g1.size g2.size,λq hq hne=>(g2.block q (aI hq g1.size) hne).trans (g1.block q hq hne)⟩
 obtain⟨W2,hW2⟩:∃W2,W2=W1.setRow g (spl (spl cur (k*4) cs) ((k+(l.length - (k+1)))*4) (Builtin.zeroCells #[.int .i64 0,.int .i64 0,.int .i64 0,.int .i64 0] (l.length - (k+(l.length - (k+1))))).toList).toArray:=⟨_,rfl⟩;rw[<- hW2]at jiP bK hgr
 have hlen2:(l.eraseIdx k).length=k+(l.length - (k+1)):=by rw[qC,aB hk];omega
 have Hg:=ah bK;have jnJ:=ah hgr;have Wv:=ah hlen2;have hw1:IntKind.i64.wrap ((k:Int)+1)=(k:Int)+1:=by rw[jY];omega
 have hkc:k<=cap:=by omega
 have jtF:k+1<=cap:=by omega
 have hcm':cap<=9223372036854775807:=by unfold maxLen at hcm;omega
 have jnQ:=ah hcm;have jnB:=ah hlc;have hkne:¬((k:Int)=(k:Int)+1):=by omega
 have hb1:(0:Int)<=(k:Int)+1:=by omega
 have hb2:(k:Int)+1<=(l.length:Int):=by omega
 have hb3:(k:Int)<=(l.length:Int):=by omega
 have htn:((k:Int)+1).toNat=k+1:=by omega
 have hl2:k+(l.length - (k+1))<l.length:=by omega
 have hl3:¬(cap=k+(l.length - (k+1))):=by omega
 clear WC hcm hi0 hg hcl hW1 hW2 hg1 hl1 bK hgr hlen2 hcs htake hcur hc1;go_enter func155,ntmps155
 go_wp2_with fail;go_region_law (refine qV _ rfl (.tmp 22) (.tmp 25) 28 28 rfl (.slice (some ⟨g,0,none⟩) k cap) (.slice (some A) (l.length - (k+1)) (cap - (k+1))) (by simp[Act.eval,Act.put]) (by simp[Act.eval,Act.put]) (hrun _) ?_)
 go_wp2_with fail;go_ret
 obtain⟨jaw,c1,c2,c3⟩:=Hg.O;refine⟨_,rfl,?_,jnJ.O,rfl⟩
 rw[<- Wv.O];exact Own.NH hk4 hbg c1 (by rw[Wv.O];have:=jnB.O;omega) jnQ.O c2 c3
theorem KO:Elem prog 48 (.agg #[.int .i64 0,.int .i64 0,.int .i64 0,.int .i64 0]) 4 32:=Iu (by kernel_rfl)
theorem O4(x:Move):∀u∈nP x,u.oneCell'=true:=by simp[nP,Value.oneCell']
theorem jgA(w:World)(v:Value)(l:List Move)(hv:Sl nP w w.heap.size v l)(hn:l.length<=1000000):
  Calls prog 112 #[v] w (Gives (λu w'=>Own nP 4 48 w' w.heap.size u l) w):=by
 obtain⟨A,c,rfl,hl,hA⟩:=hv;have qT:∀(w:World) (a:Option Addr) (n c n' c':Nat),(binOp .eql 29 (.slice a n c) (.slice none n' c')).run prog w=.ok (.bool a.isNone) w:=λw a n c n' c'=>Lib.run_eql_slice_nil w _ _ a n c n' c' underlying29
 cases A with
 |none=>
  have h0:l=[]:=by
   cases l with
   |nil=>rfl
   |cons x r=>exact absurd (hA.ok (by simp[nP])) (by rintro⟨b,off,h⟩;cases h)
  subst h0;go_enter func112,ntmps112
  go_wp2_with (at_builtin;refine aW ?_)
  go_ret
  exact⟨_,rfl,Own.nil,aj _ _⟩
 |some ad=>
  go_enter func112,ntmps112
  go_wp2_with (at_builtin;refine aW ?_)
  unfold Hid;refine IV _ rfl (.tmp 5) (.tmp 6) 29 48 rfl w.heap.size _ 4 32 underlying29 KO rfl (by decide) (by decide) (.slice (some ⟨w.heap.size,0,none⟩) 0 0) ([]:List Move) l rfl (Own.VQ w _ (au _)) (some ad) c w.heap.size rfl (λ_=>rfl)
   (hA.up ((aj _ _).alloc (au _) _) (au _)) (λy=>O4 y) (by simpa using hn) (by simp) ?_
  intro v1 w1 yj hg1 jb7 FC;go_wp2_with fail;go_ret
  exact⟨_,rfl,by simpa using yj,((aj _ _).alloc (au _) _).trans FC⟩
theorem jaN(w:World):(zeroValue 48).run prog w=.ok (.agg #[.int .i64 0,.int .i64 0,.int .i64 0,.int .i64 0]) w:=by kernel_rfl
theorem jlr(w:World)(aO:Nat)(v:Value)(l:List Move)(k:Nat)(lC:Own nP 4 48 w aO v l)(hk:k<l.length)(hn:l.length<=1000000):
  Calls prog 105 #[v,.int .i64 k,.int .i64 ((k:Int)+1)] w λe w'=>
   ∃v',e=.returned v'/\Own nP 4 48 w' aO v' (l.eraseIdx k)/\w.grownBy w' v.ownBlock/\v'.ownBlock=v.ownBlock:=by
 obtain⟨g,cap,cur,rfl,hbg,hg,hlc,hcm,hcs,htake⟩:=lC.row (by omega)
 obtain⟨i0,hi0,hz0,lg,jiQ⟩:=KO;have hk4:∀x,(nP x).length=4:=λ_=>rfl
 obtain⟨cs,WC⟩:∃cs,cs=(l.drop (k+1)).flatMap nP:=⟨_,rfl⟩;have hcl:cs.length=(l.length - (k+1))*4:=by rw[WC,kL nP 4 hk4,fQ]
 have hc1:∀u∈cs,u.oneCell'=true:=λu hu=>by
  rw[WC]at hu
  obtain⟨y,_,hy⟩:=oL.1 hu;exact O4 y u hy
 obtain⟨A,hA,hsrc⟩:∃A:Addr,(if cap=k+1 then some (⟨g,0,none⟩:Addr)else some ⟨g,(k+1)*4,none⟩)=some A/\Hid (∀j u,cs[j]?=some u->w.drew.cell? (A.add j)=some u):=by
  by_cases h:cap=k+1
  ·refine⟨⟨g,0,none⟩,by rw[aB h],λj u hj=>?_⟩
   have:=(eF.1 hj).1
   omega
  ·refine⟨⟨g,(k+1)*4,none⟩,by rw[ay h],λj u hj=>?_⟩
   rw[gU];refine hg.drew.cell ?_
   have hjl:=(eF.1 hj).1
   have e1:(cur.take (l.length*4))[(k+1)*4+j]?=some u:=by
    rw[htake,<- mO,IL nP 4 hk4,<- WC]
    exact hj
   rw[gJ]at e1
   split at e1
   ·exact e1
   ·cases e1
 have hzl:∀n,(Builtin.zeroCells #[.int .i64 0,.int .i64 0,.int .i64 0,.int .i64 0] n).toList.length=n*4:=λn=>by rw[nG];exact xK _ n
 have hcur:l.length*4<=cur.length:=by rw[hcs];exact mY _ hlc
 have hrun:∀ty,(Builtin.append_ #[29,29] ty #[.slice (some ⟨g,0,none⟩) k cap,.slice (some A) (l.length - (k+1)) (cap - (k+1))]).run prog w.drew=
   .ok (.slice (some ⟨g,0,none⟩) (k+(l.length - (k+1))) cap) (w.drew.setRow g (spl cur (k*4) cs).toArray):=λty=>by
  have h:=NC (P:=prog) w.drew 29 ty 48 i0 underlying29 hi0 g k cap (.slice (some A) (l.length - (k+1)) (cap - (k+1))) (l.length - (k+1)) cs cur hg.drew rfl
   (by rw[lg];exact qP w.drew 4 _ A _ _ cs hcl hsrc.O) (by omega) (by rw[lg,hcl];omega) hc1
  rw[lg]at h
  exact h
 obtain⟨W1,hW1⟩:∃W1,W1=w.drew.setRow g (spl cur (k*4) cs).toArray:=⟨_,rfl⟩;rw[<- hW1]at hrun
 have hg1:iV W1 g 48 (spl cur (k*4) cs):=by rw[hW1];exact hg.drew.row _
 have hl1:(spl cur (k*4) cs).length=cur.length:=zG (by rw[hcl];omega)
 have jiP:∀ty,(Builtin.clear_ #[29] ty #[.slice (some ⟨g,(k+(l.length - (k+1)))*4,none⟩) (l.length - (k+(l.length - (k+1)))) (cap - (k+(l.length - (k+1))))]).run prog W1=
   .ok (.tuple #[]) (W1.setRow g (spl (spl cur (k*4) cs) ((k+(l.length - (k+1)))*4) (Builtin.zeroCells #[.int .i64 0,.int .i64 0,.int .i64 0,.int .i64 0] (l.length - (k+(l.length - (k+1))))).toList).toArray):=λty=>
  Kr (P:=prog) W1 29 48 ty _ underlying29 jaN (by simp[Value.cells,Value.oneCell']) g _ _ _ _ hg1 (by omega) (by rw[hl1];simp[Value.cells];omega)
 have bK:∃jaw,iV (W1.setRow g (spl (spl cur (k*4) cs) ((k+(l.length - (k+1)))*4) (Builtin.zeroCells #[.int .i64 0,.int .i64 0,.int .i64 0,.int .i64 0] (l.length - (k+(l.length - (k+1))))).toList).toArray) g 48 jaw/\jaw.length=cap*4/\jaw.take ((l.eraseIdx k).length*4)=(l.eraseIdx k).flatMap nP:=by
  refine⟨_,hg1.row _,?_,?_⟩
  ·rw[zG (by rw[hl1,hzl];omega),hl1,hcs]
  ·have e1:(l.eraseIdx k).length*4=(k+(l.length - (k+1)))*4:=by rw[qC,aB hk];omega
   rw[e1,Zq (by rw[hl1];omega)]
   have e2:(k+(l.length - (k+1)))*4=k*4+cs.length:=by rw[hcl,ku]
   rw[e2,Zr (by omega),WX,WC]
   congr 1
   have e3:cur.take (k*4)=(cur.take (l.length*4)).take (k*4):=by rw[oC,jS (by omega)]
   rw[e3,htake,Gv nP 4 hk4]
 have hgr:w.grownBy (W1.setRow g (spl (spl cur (k*4) cs) ((k+(l.length - (k+1)))*4) (Builtin.zeroCells #[.int .i64 0,.int .i64 0,.int .i64 0,.int .i64 0] (l.length - (k+(l.length - (k+1))))).toList).toArray) (some g):=by
  rw[hW1];have g1:=yU w.drew g (spl cur (k*4) cs).toArray;have g2:=yU (w.drew.setRow g (spl cur (k*4) cs).toArray) g (spl (spl cur (k*4) cs) ((k+(l.length - (k+1)))*4) (Builtin.zeroCells #[.int .i64 0,.int .i64 0,.int .i64 0,.int .i64 0] (l.length - (k+(l.length - (k+1))))).toList).toArray;exact⟨g2.os.trans g1.os,g2.tape.trans g1.tape,g2.output.trans g1.output,aY g1.size g2.size,λq hq hne=>(g2.block q (aI hq g1.size) hne).trans (g1.block q hq hne)⟩
 obtain⟨W2,hW2⟩:∃W2,W2=W1.setRow g (spl (spl cur (k*4) cs) ((k+(l.length - (k+1)))*4) (Builtin.zeroCells #[.int .i64 0,.int .i64 0,.int .i64 0,.int .i64 0] (l.length - (k+(l.length - (k+1))))).toList).toArray:=⟨_,rfl⟩;rw[<- hW2]at jiP bK hgr
 have hlen2:(l.eraseIdx k).length=k+(l.length - (k+1)):=by rw[qC,aB hk];omega
 have Hg:=ah bK;have jnJ:=ah hgr;have Wv:=ah hlen2;have hw1:IntKind.i64.wrap ((k:Int)+1)=(k:Int)+1:=by rw[jY];omega
 have hkc:k<=cap:=by omega
 have jtF:k+1<=cap:=by omega
 have hcm':cap<=9223372036854775807:=by unfold maxLen at hcm;omega
 have jnQ:=ah hcm;have jnB:=ah hlc;have hkne:¬((k:Int)=(k:Int)+1):=by omega
 have hb1:(0:Int)<=(k:Int)+1:=by omega
 have hb2:(k:Int)+1<=(l.length:Int):=by omega
 have hb3:(k:Int)<=(l.length:Int):=by omega
 have htn:((k:Int)+1).toNat=k+1:=by omega
 have hl2:k+(l.length - (k+1))<l.length:=by omega
 have hl3:¬(cap=k+(l.length - (k+1))):=by omega
 clear WC hcm hi0 hg hcl hW1 hW2 hg1 hl1 bK hgr hlen2 hcs htake hcur hc1;go_enter func105,ntmps105
 go_wp2_with fail;go_region_law (refine qV _ rfl (.tmp 22) (.tmp 25) 29 29 rfl (.slice (some ⟨g,0,none⟩) k cap) (.slice (some A) (l.length - (k+1)) (cap - (k+1))) (by simp[Act.eval,Act.put]) (by simp[Act.eval,Act.put]) (hrun _) ?_)
 go_wp2_with fail;go_ret
 obtain⟨jaw,c1,c2,c3⟩:=Hg.O;refine⟨_,rfl,?_,jnJ.O,rfl⟩
 rw[<- Wv.O];exact Own.NH hk4 hbg c1 (by rw[Wv.O];have:=jnB.O;omega) jnQ.O c2 c3
theorem NR:Elem prog 44 (.agg #[.int .i64 0,.int .i64 0,.int .i64 0,.int .i64 0]) 4 32:=Iu (by kernel_rfl)
theorem ZK(x:Line):∀u∈kP x,u.oneCell'=true:=by simp[kP,Value.oneCell']
theorem Zb(w:World)(v:Value)(l:List Line)(hv:Sl kP w w.heap.size v l)(hn:l.length<=1000000):
  Calls prog 98 #[v] w (Gives (λu w'=>Own kP 4 44 w' w.heap.size u l) w):=by
 obtain⟨A,c,rfl,hl,hA⟩:=hv;have qT:∀(w:World) (a:Option Addr) (n c n' c':Nat),(binOp .eql 32 (.slice a n c) (.slice none n' c')).run prog w=.ok (.bool a.isNone) w:=λw a n c n' c'=>Lib.run_eql_slice_nil w _ _ a n c n' c' underlying32
 cases A with
 |none=>
  have h0:l=[]:=by
   cases l with
   |nil=>rfl
   |cons x r=>exact absurd (hA.ok (by simp[kP])) (by rintro⟨b,off,h⟩;cases h)
  subst h0;go_enter func98,ntmps98
  go_wp2_with (at_builtin;refine aW ?_)
  go_ret
  exact⟨_,rfl,Own.nil,aj _ _⟩
 |some ad=>
  go_enter func98,ntmps98
  go_wp2_with (at_builtin;refine aW ?_)
  unfold Hid;refine IV _ rfl (.tmp 5) (.tmp 6) 32 44 rfl w.heap.size _ 4 32 underlying32 NR rfl (by decide) (by decide) (.slice (some ⟨w.heap.size,0,none⟩) 0 0) ([]:List Line) l rfl (Own.VQ w _ (au _)) (some ad) c w.heap.size rfl (λ_=>rfl)
   (hA.up ((aj _ _).alloc (au _) _) (au _)) (λy=>ZK y) (by simpa using hn) (by simp) ?_
  intro v1 w1 yj hg1 jb7 FC;go_wp2_with fail;go_ret
  exact⟨_,rfl,by simpa using yj,((aj _ _).alloc (au _) _).trans FC⟩
end Wh
namespace Wh
open Go Go.RowKit Go.Shelf Go.Proofs Tryz
attribute [local go_sem] aT
theorem jmO(w:World)(v:Value)(on:List (List Int))(hv:FW jJ w w.heap.size v on)(hn:on.length<=1000)(hr:∀k,k<on.length->0<(fO on k).length/\(fO on k).length<=1000):
  Calls prog 43 #[v] w (Gives (λu w'=>∃gs,qM 23 3 w' w.heap.size u on gs) w):=by
 have hO:=hv;obtain⟨A,c,vs,rfl,hl,hvl,hA,G9⟩:=hv;go_enter func43,ntmps43
 go_wp2_with fail;go_loopw[3,4] (λu i wr=>∃(k:Nat) (gs:List Nat),k<=on.length/\i=.int .i64 k/\qM 23 3 wr w.heap.size u (on.take k) gs/\Below w.heap.size w wr) (λ_ i _=>on.length - (RowKit.intOf i).toNat)
 case atStart=>exact⟨0,[],aK _,rfl,qM.nil,aj _ _⟩
 case round=>
  obtain⟨k,gs,hk,rfl,lC,hbw⟩:=hrel;by_cases hlt:k<on.length
  ·obtain⟨A',c',hok,LG,hcu,hsu⟩:=(hO.up hbw hbw.size).row hlt;have hrk:=hr k hlt;have hA2:=hsu.at_;obtain⟨vs',hV⟩:=lC;have h1:=hV.1;have h2:=hV.2.1;have kD:(on.take k).length<=1000:=aY (xU _ _) (by omega)
   go_wp2_with (first|(at_builtin;refine aW ?_)|fail)
   unfold Hid;refine IV _ rfl (.tmp 12) (.tmp 16) 23 3 rfl wr.heap.size _ 1 8 underlying23 L9 rfl (by decide) (by decide) (.slice (some ⟨wr.heap.size,0,none⟩) 0 0) ([]:List Int) (fO on k) rfl (Own.VQ wr _ (au _)) A' c' wr.heap.size rfl (λ_=>rfl)
    (hA2.up ((aj _ _).alloc (au _) _) (au _)) (λy=>UU y) (by simp;omega) (by simp) ?_
   intro v1 w1 yj hg1 jb7 FC;rw[iy]at yj
   obtain⟨g,cu,rfl,hgb,hgl⟩:=yj.some_ hrk.1;have hb1:Below wr.heap.size wr w1:=((aj _ _).alloc (au _) _).trans FC;have sF:=hbw.trans (hb1.mono hbw.size);go_wp2_with (first|(at_builtin;refine aW ?_)|fail)
   unfold Hid;refine lS _ rfl (.tmp 11) (.tmp 18) 26 23 rfl w.heap.size _ 1 24 underlying26 Rw rfl (by decide) (by decide) u3 vs' (.slice (some ⟨g,0,none⟩) (fO on k).length cu) rfl ((h1.below hb1).alloc _) ⟨w1.heap.size,0,none⟩ 1 rfl rfl (cell_one_new _ _ _) (UR _ rfl) (by omega) (by have:=sF.size;simp;omega) ?_
   intro v2 w2 yh hg2 jt2 ji3;have hpush:=Xt.push (by decide) hV (hb1.alloc hb1.size _) hgb ((yj.from_ hbw.size).alloc _) hg2 yh
   rw[xZ hlt,<- Dq hlt]at hpush
   have hbw2:=(sF.alloc sF.size (.cells #[.slice (some ⟨g,0,none⟩) (fO on k).length cu] 23)).trans ji3;go_wp2_with fail;go_roundw
   case rel=>exact⟨k+1,_,by omega,by go_num,hpush,hbw2⟩
   case measure=>simp[RowKit.intOf];omega
  ·obtain rfl:k=on.length:=by omega
   rw[fG]at lC
   go_wp2_with fail;go_ret
   exact⟨_,rfl,⟨gs,lC⟩,hbw⟩
end Wh
