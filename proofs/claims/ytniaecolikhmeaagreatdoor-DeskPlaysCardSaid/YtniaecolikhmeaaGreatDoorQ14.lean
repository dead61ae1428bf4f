/- Texts of the claim, joined. -/
import Derived.Deep.RegionHeld3
import Derived.Laws.EntriesVeiled
import Derived.Test.YtniaecolikhmeaaGreatDoorQ09
set_option maxHeartbeats 20000000
set_option maxRecDepth 100000
set_option linter.all false
namespace Wh
open Go Go.RowKit Go.Shelf Go.Proofs Tryz
section
attribute [local go_sem] aV
theorem jfw(n:Int)(w:World):Calls prog 230 #[n] w λe w'=>e=.returned (.bool false)/\w=w':=by
 go_enter func230,ntmps230
 go_wp2
 go_ret
 exact⟨by simp,rfl⟩
theorem jfx(a b:Int)(w:World):Calls prog 217 #[a,b] w λe w'=>e=.returned ((Uw a b))/\w=w':=by
 rcases NT a b with⟨h1,h2⟩|⟨h1,h2⟩|⟨h1,h2⟩
 ·go_enter func217,ntmps217
  go_wp2_with (go_at_call 230;refine(jfw _ _).mono ?_;rintro e w' ⟨rfl,rfl⟩)
  go_ret
  exact⟨iK h2.symm,rfl⟩
 ·go_enter func217,ntmps217
  go_wp2_with (go_at_call 230;refine(jfw _ _).mono ?_;rintro e w' ⟨rfl,rfl⟩)
  go_ret
  exact⟨iK h2.symm,rfl⟩
 ·subst h1;go_enter func217,ntmps217
  go_wp2_with (go_at_call 230;refine(jfw _ _).mono ?_;rintro e w' ⟨rfl,rfl⟩)
  go_ret
  exact⟨iK h2.symm,rfl⟩
def or3(a b c:Int):Int:=if a≠0 then a else if b≠0 then b else c
theorem jtd(a b c:Int)(w:World)(bl off k:Nat)(h0:w.cell? ⟨bl,off,none⟩=some (.int .i64 a))(h1:w.cell? ⟨bl,off+1,none⟩=some (.int .i64 b))(h2:w.cell? ⟨bl,off+2,none⟩=some (.int .i64 c)):
  Calls prog 216 #[.slice (some ⟨bl,off,none⟩) 3 k] w λe w'=>e=.returned ((or3 a b c))/\w=w':=by
 by_cases ha:a=0
 ·subst ha;by_cases hb:b=0
  ·subst hb;have dw:or3 0 0 c=c:=by simp[or3]
   by_cases hc:c=0
   ·subst hc;go_enter func216,ntmps216
    go_wp2_with fail;refine yV 4 ?_
    rw[nY];go_wp2_with fail;rw[nY];go_wp2_with fail;rw[nY];go_wp2_with fail;rw[nY];go_wp2_with fail;go_ret
    exact⟨iK dw.symm,rfl⟩
   ·have hc':(c !=0)=true:=by simpa using hc
    go_enter func216,ntmps216
    go_wp2_with fail;refine yV 4 ?_
    rw[nY];go_wp2_with fail;rw[nY];go_wp2_with fail;rw[nY];go_wp2_with fail;go_ret
    exact⟨iK dw.symm,rfl⟩
  ·have dw:or3 0 b c=b:=by simp[or3,hb]
   have hb':(b !=0)=true:=by simpa using hb
   go_enter func216,ntmps216
   go_wp2_with fail;refine yV 4 ?_
   rw[nY];go_wp2_with fail;rw[nY];go_wp2_with fail;go_ret
   exact⟨iK dw.symm,rfl⟩
 ·have dw:or3 a b c=a:=by simp[or3,ha]
  have ha':(a !=0)=true:=by simpa using ha
  go_enter func216,ntmps216
  go_wp2_with fail;refine yV 4 ?_
  rw[nY];go_wp2_with fail;go_ret
  exact⟨iK dw.symm,rfl⟩
theorem Qd(a b:eX)(w:World):Calls prog 197 #[uK a,uK b] w λe w'=>e=.returned ((ord a b))/\Below w w w':=by
 unfold uK;go_enter func197,ntmps197
 go_wp2_with fail;go_region_held3 (λw'=>w'.cell? w=some (.int .i64 a.aC)/\w'.cell? ⟨w.heap.size,1,none⟩=some (.int .i64 a.aK)/\w'.cell? ⟨w.heap.size,2,none⟩=some (.int .i64 a.bin)/\
  w'.cell? ⟨w.heap.size+1,0,none⟩=some (.int .i64 b.aC)/\w'.cell? ⟨w.heap.size+1,1,none⟩=some (.int .i64 b.aK)/\w'.cell? ⟨w.heap.size+1,2,none⟩=some (.int .i64 b.bin)) (first|go_keep)
  (first
  |(go_at_call 217;refine(jfx _ _ _).mono ?_;rintro e w' ⟨rfl,rfl⟩)
  |(go_at_call 216;refine(jtd (Uw a.aC b.aC) (Uw a.aK b.aK) (Uw a.bin b.bin) _ _ _ _ (by go_simp) (by go_simp) (by go_simp)).mono ?_;rintro e w' ⟨rfl,rfl⟩))
 go_wp2_with fail;go_ret
 exact⟨rfl,((((aj _ _).alloc (ay _) _).alloc (by simp) _).alloc (by simp;omega) _).drew⟩
theorem Gh(h:eX)(w:World)(hk:sJ h.aC h.aK h.bin):Calls prog 170 #[uK h] w λe w'=>e=.returned ((fP h))/\Below w w w':=by
 obtain⟨⟨a1,a2⟩,⟨b1,b2⟩,⟨c1,c2⟩⟩:=hk;unfold uK;go_enter func170,ntmps170
 go_wp2
 go_ret
 exact⟨rfl,(aj _ _).alloc (ay _) _⟩
theorem jfj(h:eX):(dM h.aC 0 3=false/\lq h=false)\/(dM h.aC 0 3=true/\dM h.aK 0 2=false/\lq h=false)\/
  (dM h.aC 0 3=true/\dM h.aK 0 2=true/\dM h.bin 0 5=false/\lq h=false)\/(dM h.aC 0 3=true/\dM h.aK 0 2=true/\dM h.bin 0 5=true/\lq h=dM h.n 1 200):=by
 unfold lq;cases dM h.aC 0 3<;>cases dM h.aK 0 2<;>cases dM h.bin 0 5<;>simp
theorem PY(h:eX)(w:World):Calls prog 228 #[uK h] w λe w'=>e=.returned (.bool (lq h))/\Below w w w':=by
 unfold uK;rcases jfj h with⟨g1,hf⟩|⟨g1,g2,hf⟩|⟨g1,g2,g3,hf⟩|⟨g1,g2,g3,hf⟩
 all_goals
  go_enter func228,ntmps228
  go_wp2_with (go_at_call 43;refine(oz _ _ _ _).mono ?_;rintro e w' ⟨rfl,rfl⟩)
  go_ret
  exact⟨gK hf.symm,(aj _ _).alloc (ay _) _⟩
end
section
attribute [local go_sem] aV
theorem jeU(h:eX):(min (min h.aC h.aK) h.bin<0/\lq h=false)\/(0<=min (min h.aC h.aK) h.bin/\4<=h.aC/\lq h=false)\/
  (0<=min (min h.aC h.aK) h.bin/\h.aC<4/\3<=h.aK/\lq h=false)\/(0<=min (min h.aC h.aK) h.bin/\h.aC<4/\h.aK<3/\6<=h.bin/\lq h=false)\/
  (0<=min (min h.aC h.aK) h.bin/\h.aC<4/\h.aK<3/\h.bin<6/\h.n<1/\lq h=false)\/(0<=min (min h.aC h.aK) h.bin/\h.aC<4/\h.aK<3/\h.bin<6/\1<=h.n/\200<h.n/\lq h=false)\/
  (0<=min (min h.aC h.aK) h.bin/\h.aC<4/\h.aK<3/\h.bin<6/\1<=h.n/\h.n<=200/\lq h=true):=by
 have hi:=@nH h;unfold sJ at hi
 cases hf:lq h
 ·rw[hf]at hi
  simp only[iV,wB]at hi
  simp only[ni,reduceCtorEq,ql,lC];omega
 ·rw[hf]at hi
  simp only[uX]at hi
  simp only[ni,reduceCtorEq,ql,xP];omega
theorem XF(h:eX)(w:World):Calls prog 195 #[uK h] w λe w'=>e=.returned (.bool (lq h))/\Below w w w':=by
 unfold uK;rcases jeU h with⟨g1,hf⟩|⟨g1,g2,hf⟩|⟨g1,g2,g3,hf⟩|⟨g1,g2,g3,g4,hf⟩|⟨g1,g2,g3,g4,g5,hf⟩|⟨g1,g2,g3,g4,g5,g6,hf⟩|⟨g1,g2,g3,g4,g5,g6,hf⟩
 all_goals
  have hf':=ah hf;clear hf;go_enter func195,ntmps195
  go_wp2
  all_goals
   go_ret
   exact⟨gK (by rw[hf'.O]<;>first|rfl|(simp<;>omega)),(aj _ _).alloc (ay _) _⟩
def Di(l:List eX)(k:Nat):Bool:=lq (hold l k)&&(decide (k=0)||decide (fP (hold l (k - 1))<fP (hold l k)))
theorem NC{l:List eX}{k:Nat}(hk:k<l.length)(h:Di l k=false):lV l=1:=by
 unfold lV;rw[au];intro hc;have:=bJ.1 hc k (jq.2 hk);unfold Di at h
 rw[h]at this
 cases this
theorem ZO{l:List eX}(h:∀k,k<l.length->Di l k=true):lV l=0:=by
 unfold lV;rw[aB];exact bJ.2 λk hk=>h k (jq.1 hk)
theorem Zh{l:List eX}{k:Nat}(h:Di l k=true):lq (hold l k)=true:=by
 unfold Di at h
 simp only[dF]at h
 exact h.1
theorem jfN{l:List eX}{k:Nat}(h:lq (hold l k)=false):Di l k=false:=by
 unfold Di;rw[h];rfl
theorem Zf{l:List eX}(h:lq (hold l 0)=true):Di l 0=true:=by
 unfold Di;rw[h];rfl
theorem Zg{l:List eX}{k:Nat}(h:lq (hold l (k+1))=true):Di l (k+1)=decide (fP (hold l k)<fP (hold l (k+1))):=by
 unfold Di;rw[h];simp
theorem jhX{l:List eX}{k:Nat}(h:lq (hold l (k+1))=true)(h0:lq (hold l k)=true):Di l (k+1)=decide (ord (hold l k) (hold l (k+1))<0):=by
 rw[Zg h];congr 1
 rw[P5 (nH.1 h0).1 (nH.1 h).1]
theorem VL(w:World)(v:Value)(l:List eX)(hv:Sl iD w w v l):
  Calls prog 150 #[v] w λe w'=>e=.returned ((lV l))/\Below w w w':=by
 obtain⟨A,c,rfl,hl,hA⟩:=hv;go_enter func150,ntmps150
 go_wp2_with fail;go_loopw[7,3,4] (λi _ _ wr=>∃k:Nat,k<=l.length/\i=.int .i64 k/\(∀j,j<k->Di l j=true)/\Below w.heap.size w wr) (λi _ _ _=>l.length - (RowKit.intOf i).toNat)
 case atStart=>exact⟨0,aN _,rfl,λj hj=>by omega,aj _ _⟩
 case round=>
  obtain⟨k,hk,rfl,kQ,hbw⟩:=hrel;by_cases hlt:k<l.length
  ·obtain⟨hok,MW,b0,b1,b2,b3⟩:=(hA.up hbw hbw.size).hold hlt;have hba:Below w w (wr.alloc (nC (hold l k))):=hbw.alloc hbw.size _;have q0:=λo d os=>cZ (w:=wr.alloc (nC (hold l k))) (b:=wr.heap.size) (by simp) o d os
   cases hf:lq (hold l k)
   ·go_wp2_with fail;refine dO (by kernel_rfl) (by kernel_rfl) ?_
    repeat(go_big_quiet_step ((go_at_call 195;refine fV (XF (hold l k) _))))
    refine wpQuiet_nil ?_
    intro W2 hw';have hb2:=dN hw';clear hw';go_wp2_with fail;go_ret
    exact⟨iK (NC hlt (jfN hf)).symm,fD hba hb2⟩
   ·rcases k with _|m
    ·have hst:=Zf hf;simp only[EL,fZ]at b0 b1 b2 b3
     go_wp2_with fail;refine dO (by kernel_rfl) (by kernel_rfl) ?_
     repeat(go_big_quiet_step ((go_at_call 195;refine fV (XF (hold l 0) _))))
     refine wpQuiet_nil ?_
     intro W2 hw';have hb2:=dN hw';clear hw';go_wp2_with fail;go_roundw
     case rel=>exact⟨1,by omega,by go_num,λj hj=>by(obtain rfl:j=0:=by omega);exact hst,fD hba hb2⟩
     case measure=>simp[dY];omega
    ·obtain⟨_,_,c0,c1,c2,c3⟩:=(hA.up hbw hbw.size).hold (show m<l.length by omega)
     have qA:=λo d os=>cZ (w:=wr.alloc (nC (hold l (m+1)))) (b:=iH A) (by simp;omega) o d os
     have hst:=jhX hf (Zh (kQ m (by omega)))
     by_cases ho:ord (hold l m) (hold l (m+1))<0
     ·have hst':=ah (show Di l (m+1)=true by rw[hst];simpa using ho)
      clear hst;go_wp2_with fail;refine dO (by kernel_rfl) (by kernel_rfl) ?_
      repeat(go_big_quiet_step ((first|(go_at_call 195;refine fV (XF (hold l (m+1)) _))|(go_at_call 197;refine fV (Qd (hold l m) (hold l (m+1)) _)))))
      refine wpQuiet_nil ?_
      intro W2 hw';have hb2:=dN hw';clear hw';go_wp2_with fail;go_roundw
      case rel=>
       refine⟨m+2,by omega,by go_num,λj hj=>?_,fD hba hb2⟩
       rcases bf.1 hj with h|rfl
       ·exact kQ j h
       ·exact hst'.O
      case measure=>simp[dY];omega
     ·have hst':=ah (show Di l (m+1)=false by rw[hst];simpa using ho)
      have ho':0<=ord (hold l m) (hold l (m+1)):=by omega
      clear hst ho;go_wp2_with fail;refine dO (by kernel_rfl) (by kernel_rfl) ?_
      repeat(go_big_quiet_step ((first|(go_at_call 195;refine fV (XF (hold l (m+1)) _))|(go_at_call 197;refine fV (Qd (hold l m) (hold l (m+1)) _)))))
      refine wpQuiet_nil ?_
      intro W2 hw';have hb2:=dN hw';clear hw';go_wp2_with fail;go_ret
      exact⟨iK (NC hlt hst'.O).symm,fD hba hb2⟩
  ·obtain rfl:k=l.length:=by omega
   have dw:=ah (ZO kQ);go_wp2_with fail;go_ret
   exact⟨iK dw.O.symm,hbw⟩
theorem jcc(w:World)(v:Value)(l:List eX)(hv:Sl iD w w v l):
  Calls prog 205 #[v] w λe w'=>e=.returned ((lV l))/\Below w w w':=by
 obtain⟨A,c,rfl,hl,hA⟩:=hv;go_enter func205,ntmps205
 go_wp2_with fail;go_loopw[3] (λi wr=>∃k:Nat,k<=l.length/\i=.int .i64 k/\(∀j,j<k->Di l j=true)/\Below w.heap.size w wr) (λi _=>l.length - (RowKit.intOf i).toNat)
 case atStart=>exact⟨0,aN _,rfl,λj hj=>by omega,aj _ _⟩
 case round=>
  obtain⟨k,hk,rfl,kQ,hbw⟩:=hrel;by_cases hlt:k<l.length
  ·obtain⟨hok,MW,b0,b1,b2,b3⟩:=(hA.up hbw hbw.size).hold hlt;have qA:=λo d os=>cZ (w:=wr) (b:=iH A) MW o d os
   cases hf:lq (hold l k)
   ·go_wp2_with fail;refine dO (by kernel_rfl) (by kernel_rfl) ?_
    repeat(go_big_quiet_step ((go_at_call 228;refine fV (PY (hold l k) _))))
    refine wpQuiet_nil ?_
    intro W2 hw';have hb2:=dN hw';clear hw';go_wp2_with fail;go_ret
    exact⟨iK (NC hlt (jfN hf)).symm,fD hbw hb2⟩
   ·rcases k with _|m
    ·have hst:=Zf hf;simp only[EL,fZ]at b0 b1 b2 b3
     go_wp2_with fail;refine dO (by kernel_rfl) (by kernel_rfl) ?_
     repeat(go_big_quiet_step ((go_at_call 228;refine fV (PY (hold l 0) _))))
     refine wpQuiet_nil ?_
     intro W2 hw';have hb2:=dN hw';clear hw';go_wp2_with fail;go_roundw
     case rel=>exact⟨1,by omega,by go_num,λj hj=>by(obtain rfl:j=0:=by omega);exact hst,fD hbw hb2⟩
     case measure=>simp[dY];omega
    ·obtain⟨_,_,c0,c1,c2,c3⟩:=(hA.up hbw hbw.size).hold (show m<l.length by omega)
     have hst:=Zg hf;have hk0:=(nH.1 (Zh (kQ m (by omega)))).1
     have hk1:=(nH.1 hf).1;have hK0:=ah hk0;have hK1:=ah hk1;clear hk0 hk1;by_cases ho:fP (hold l m)<fP (hold l (m+1))
     ·have hst':=ah (show Di l (m+1)=true by rw[hst];simpa using ho)
      clear hst;go_wp2_with fail;refine dO (by kernel_rfl) (by kernel_rfl) ?_
      repeat(go_big_quiet_step ((first|(go_at_call 228;refine fV (PY (hold l (m+1)) _))|(go_at_call 170;refine fV (Gh _ _ (by first|exact hK0.O|exact hK1.O))))))
      refine wpQuiet_nil ?_
      intro W2 hw';have hb2:=dN hw';clear hw';go_wp2_with fail;go_roundw
      case rel=>
       refine⟨m+2,by omega,by go_num,λj hj=>?_,fD hbw hb2⟩
       rcases bf.1 hj with h|rfl
       ·exact kQ j h
       ·exact hst'.O
      case measure=>simp[dY];omega
     ·have hst':=ah (show Di l (m+1)=false by rw[hst];simpa using ho)
      have ho':fP (hold l (m+1))<=fP (hold l m):=by omega
      clear hst ho;go_wp2_with fail;refine dO (by kernel_rfl) (by kernel_rfl) ?_
      repeat(go_big_quiet_step ((first|(go_at_call 228;refine fV (PY (hold l (m+1)) _))|(go_at_call 170;refine fV (Gh _ _ (by first|exact hK0.O|exact hK1.O))))))
      refine wpQuiet_nil ?_
      intro W2 hw';have hb2:=dN hw';clear hw';go_wp2_with fail;go_ret
      exact⟨iK (NC hlt hst'.O).symm,fD hbw hb2⟩
  ·obtain rfl:k=l.length:=by omega
   have dw:=ah (ZO kQ);go_wp2_with fail;go_ret
   exact⟨iK dw.O.symm,hbw⟩
end
section
attribute [local go_sem] aV
theorem jeE{l:List eX}{o ln b:Int}{k:Nat}(hk:k<l.length)(h:vS o ln b (hold l k)=true)(hn:∀j,j<k->vS o ln b (hold l j)=false):dD l o ln b=(hold l k).n:=by
 unfold dD;have:l.find? (vS o ln b)=some (hold l k):=by
  rw[List.find?_eq_some_iff_getElem]
  refine⟨h,k,hk,(iZ hk).symm,λj hj=>?_⟩
  have:=hn j hj;rw[iZ (by omega)]at this
  rw[this];rfl
 rw[this]
theorem jcE{l:List eX}{o ln b:Int}(hn:∀j,j<l.length->vS o ln b (hold l j)=false):dD l o ln b=0:=by
 refine Ec λx hx hk=>?_
 obtain⟨i,hi,rfl⟩:=bg hx;have h:=hn i hi;rw[iZ hi,DW.2 hk]at h
 cases h
theorem jgW(o ln b:Int)(h:eX):((h.aC==o)=false/\vS o ln b h=false)\/((h.aC==o)=true/\(h.aK==ln)=false/\vS o ln b h=false)\/
  ((h.aC==o)=true/\(h.aK==ln)=true/\(h.bin==b)=false/\vS o ln b h=false)\/((h.aC==o)=true/\(h.aK==ln)=true/\(h.bin==b)=true/\vS o ln b h=true):=by
 unfold vS;by_cases h1:h.aC=o<;>by_cases h2:h.aK=ln<;>by_cases h3:h.bin=b<;>simp[h1,h2,h3]
theorem jax(w:World)(v:Value)(l:List eX)(o ln b:Int)(hv:Sl iD w w v l):
  Calls prog 120 #[v,o,ln,b] w λe w'=>e=.returned ((dD l o ln b))/\w=w':=by
 obtain⟨A,c,rfl,hl,hA⟩:=hv;go_enter func120,ntmps120
 go_wp2_with fail;go_loop[9] (λi=>∃k:Nat,k<=l.length/\i=k/\(∀j,j<k->vS o ln b (hold l j)=false)) (λi=>l.length - (RowKit.intOf i).toNat)
 case atStart=>exact⟨0,aN _,rfl,λj hj=>by omega⟩
 case round=>
  obtain⟨k,hk,rfl,kQ⟩:=hrel;have hall':=ah kQ;clear kQ;by_cases hlt:k<l.length
  ·obtain⟨hok,MW,b0,b1,b2,b3⟩:=hA.hold hlt;rcases jgW o ln b (hold l k)with⟨g1,hs⟩|⟨g1,g2,hs⟩|⟨g1,g2,g3,hs⟩|⟨g1,g2,g3,hs⟩
   ·have hs':=ah hs;clear hs;go_wp2_with fail;go_round
    case rel=>
     refine⟨k+1,by omega,by go_num,λj hj=>?_⟩
     rcases bf.1 hj with h|rfl
     ·exact hall'.O j h
     ·exact hs'.O
    case measure=>simp[dY];omega
   ·have hs':=ah hs;clear hs;go_wp2_with fail;go_round
    case rel=>
     refine⟨k+1,by omega,by go_num,λj hj=>?_⟩
     rcases bf.1 hj with h|rfl
     ·exact hall'.O j h
     ·exact hs'.O
    case measure=>simp[dY];omega
   ·have hs':=ah hs;clear hs;go_wp2_with fail;go_round
    case rel=>
     refine⟨k+1,by omega,by go_num,λj hj=>?_⟩
     rcases bf.1 hj with h|rfl
     ·exact hall'.O j h
     ·exact hs'.O
    case measure=>simp[dY];omega
   ·have dw:=ah (jeE hlt hs hall'.O);clear hs;go_wp2_with fail;go_ret
    exact⟨iK dw.O.symm,rfl⟩
  ·obtain rfl:k=l.length:=by omega
   have dw:=ah (jcE hall'.O);go_wp2_with fail;go_ret
   exact⟨iK dw.O.symm,rfl⟩
theorem VG(w:World)(v:Value)(l:List eX)(o ln:Int)(hv:Sl iD w w v l)(hok:iI l=true):
  Calls prog 207 #[v,o,ln] w λe w'=>e=.returned ((kept l o ln))/\w=w':=by
 have hV:=hv;obtain⟨A,c,rfl,hl,hA⟩:=hv;obtain⟨g1,g2⟩:=gI.1 hok;have hr:=λb=>Gn g1 g2 o ln b
 have dw:=ah (Hy hok o ln);have hr':=ah hr;clear hok g1 g2 hr;go_enter func207,ntmps207
 go_wp2_with fail;go_loop[7,8] (λn i=>∃k:Nat,k<=6/\i=k/\n=.int .i64 (ny (λb=>dD l o ln b) k)) (λ_ i=>6 - (RowKit.intOf i).toNat)
 case atStart=>exact⟨0,by omega,rfl,rfl⟩
 case round=>
  obtain⟨k,hk,rfl,rfl⟩:=hrel;obtain⟨u1,u2⟩:=BP (f:=λb=>dD l o ln b) (n:=k) (m:=200) (λj _=>hr'.O j)
  have u3:ny (λb=>dD l o ln b) k<=1200:=by omega
  clear u2;by_cases hlt:k<6
  ·obtain⟨q1,q2⟩:=hr'.O k;go_wp2_with fail;refine(jax _ _ _ _ _ _ hV).mono ?_
   rintro e w' ⟨rfl,rfl⟩;go_wp2_with fail;go_round
   case rel=>exact⟨k+1,by omega,by go_num,rfl⟩
   case measure=>simp[dY];omega
  ·obtain rfl:k=6:=by omega
   go_wp2_with fail;go_ret
   exact⟨iK dw.O.symm,rfl⟩
theorem jeB(o ln:Int)(h:eX):((h.aC==o)=false/\CP o ln h=false)\/((h.aC==o)=true/\(h.aK==ln)=false/\CP o ln h=false)\/
  ((h.aC==o)=true/\(h.aK==ln)=true/\CP o ln h=true):=by
 unfold CP;by_cases h1:h.aC=o<;>by_cases h2:h.aK=ln<;>simp[h1,h2]
def Hz(l:List eX)(o ln:Int)(k:Nat):Int:=kept (l.take k) o ln
theorem jeD{l:List eX}{o ln:Int}{k:Nat}(hk:k<l.length)(h:CP o ln (hold l k)=true):Hz l o ln (k+1)=Hz l o ln k+(hold l k).n:=by
 unfold Hz kept;rw[bM hk,jH,<- iZ hk,kS,h];simp
theorem ZI{l:List eX}{o ln:Int}{k:Nat}(hk:k<l.length)(h:CP o ln (hold l k)=false):Hz l o ln (k+1)=Hz l o ln k:=by
 unfold Hz kept;rw[bM hk,jH,<- iZ hk,kS,h];simp
theorem jlw{l:List eX}(h:iI l=true)(k:Nat):iI (l.take k)=true:=by
 obtain⟨g1,g2⟩:=gI.1 h;exact gI.2 ⟨λx hx=>g1 x (oq hx),g2.sublist (List.take_sublist k l)⟩
theorem Yd{l:List eX}:lV l=0↔iI l=true:=by
 unfold lV;cases iI l<;>simp
theorem jjK(w:World)(v:Value)(l:List eX)(o ln:Int)(hv:Sl iD w w v l):
  Calls prog 194 #[v,o,ln] w λe w'=>e=.returned (.tuple #[.int .i64 (N8 l o ln).1,.int .i64 (N8 l o ln).2])/\Below w w w':=by
 have hV:=hv;obtain⟨A,c,rfl,hl,hA⟩:=hv;go_enter func194,ntmps194
 go_wp2_with fail;refine(VL _ _ _ hV).mono ?_
 rintro e W1 ⟨rfl,hb1⟩;cases hok:iI l
 ·have hc:lV l=1:=by unfold lV;rw[hok];rfl
  have hk:N8 l o ln=(0,1):=by unfold N8;rw[hok];rfl
  have hk':=ah hk;rw[hc];clear hc hk;go_wp2_with fail;go_ret2
  exact⟨jd9 (by rw[hk'.O];rfl) (by rw[hk'.O];rfl),hb1⟩
 ·have hc:lV l=0:=Yd.2 hok;have hk:N8 l o ln=(kept l o ln,0):=by unfold N8;rw[hok];rfl
  have hrg:=λk=>wH (jlw hok k) o ln
  have jeQ:=ah hrg;have hk':=ah hk;rw[hc];clear hc hk hok hrg;go_wp2_with fail;go_loopw[9,19,11] (λn i _ wr=>∃k:Nat,k<=l.length/\i=.int .i64 k/\n=.int .i64 (Hz l o ln k)/\Below W1.heap.size W1 wr) (λ_ i _ _=>l.length - (RowKit.intOf i).toNat)
  case atStart=>exact⟨0,aN _,rfl,rfl,aj _ _⟩
  case round=>
   obtain⟨k,hk,rfl,rfl,hbw⟩:=hrel;obtain⟨u1,u2⟩:=jeQ.O k;change 0<=Hz l o ln k at u1
   change Hz l o ln k<=1200 at u2
   by_cases hlt:k<l.length
   ·have XK:=fD hb1 hbw;obtain⟨hok,MW,b0,b1,b2,b3⟩:=(hA.up XK XK.size).hold hlt;obtain⟨u3,u4⟩:=jeQ.O (k+1);change 0<=Hz l o ln (k+1)at u3
    change Hz l o ln (k+1)<=1200 at u4
    rcases jeB o ln (hold l k)with⟨g1,hs⟩|⟨g1,g2,hs⟩|⟨g1,g2,hs⟩
    ·have hs':=ah (ZI hlt hs);clear hs;go_wp2_with fail;go_roundw
     case rel=>exact⟨k+1,by omega,by go_num,by rw[hs'.O],hbw.alloc hbw.size _⟩
     case measure=>simp[dY];omega
    ·have hs':=ah (ZI hlt hs);clear hs;go_wp2_with fail;go_roundw
     case rel=>exact⟨k+1,by omega,by go_num,by rw[hs'.O],hbw.alloc hbw.size _⟩
     case measure=>simp[dY];omega
    ·have hs':=ah (jeD hlt hs);rw[hs'.O]at u3 u4
     clear hs;go_wp2_with fail;go_roundw
     case rel=>exact⟨k+1,by omega,by go_num,by rw[hs'.O],hbw.alloc hbw.size _⟩
     case measure=>simp[dY];omega
   ·obtain rfl:k=l.length:=by omega
    have dw:=ah (show Hz l o ln l.length=kept l o ln by unfold Hz;rw[dR])
    go_wp2_with fail;go_ret2
    exact⟨jd9 (by rw[hk'.O,<- dw.O];rfl) (by rw[hk'.O];rfl),fD hb1 hbw⟩
end
section
attribute [local go_sem] aV
theorem jey(p:dG)(x:Move):((lK p x.src&&iO p x.dW)=false/\sZ p x=false)\/((lK p x.src&&iO p x.dW)=true/\(lK p x.dst&&iO p x.dW)=false/\sZ p x=false)\/
  ((lK p x.src&&iO p x.dW)=true/\(lK p x.dst&&iO p x.dW)=true/\(x.src !=x.dst)=false/\sZ p x=false)\/
  ((lK p x.src&&iO p x.dW)=true/\(lK p x.dst&&iO p x.dW)=true/\(x.src !=x.dst)=true/\x.n<1/\sZ p x=false)\/
  ((lK p x.src&&iO p x.dW)=true/\(lK p x.dst&&iO p x.dW)=true/\(x.src !=x.dst)=true/\1<=x.n/\200<x.n/\sZ p x=false)\/
  ((lK p x.src&&iO p x.dW)=true/\(lK p x.dst&&iO p x.dW)=true/\(x.src !=x.dst)=true/\1<=x.n/\x.n<=200/\sZ p x=true):=by
 unfold sZ;have hw:=@dZ x.n 1 200;cases lK p x.src<;>cases iO p x.dW<;>cases lK p x.dst<;>by_cases h:x.src=x.dst<;>cases hq:dM x.n 1 200<;>simp[h,hq]at hw ⊢<;>omega
theorem jk7(p:dG)(x:Move)(W:World)(B:Nat)(Ab As:Option Addr)(cb cs:Nat)(h0:W.cell? B=some (.slice Ab p.dP.length cb))(h1:W.cell? ⟨B,1,none⟩=some (.slice As p.aW.length cs))(hB:B<W.heap.size)
  (hP:kK W W (.agg (xu p Ab cb As cs)) p):
  Calls prog 186 #[EW x,.pointer (some B)] W λe W'=>e=.returned (.bool (sZ p x))/\Below W W W':=by
 have hb0:Below W W (W.alloc (IE x)):=(aj _ _).alloc (ay _) _;have hBl:B<(W.alloc (IE x)).heap.size:=by simp;omega
 unfold EW;rcases jey p x with⟨g1,hf⟩|⟨g1,g2,hf⟩|⟨g1,g2,g3,hf⟩|⟨g1,g2,g3,g4,hf⟩|⟨g1,g2,g3,g4,g5,hf⟩|⟨g1,g2,g3,g4,g5,hf⟩
 ·have hf':=ah hf;have g1':=ah g1;clear hf g1;go_enter func186,ntmps186
  go_wp2_with fail;refine(KU _ _ p x.src x.dW (hP.grow hb0)).mono ?_
  rintro e W1 ⟨rfl,hc1⟩;rw[g1'.O];go_wp2_with fail;go_ret
  exact⟨gK (by rw[hf'.O]),fD hb0 hc1⟩
 all_goals
  have hf':=ah hf;have g1':=ah g1;have g2':=ah g2;clear hf g1 g2;go_enter func186,ntmps186
  go_wp2_with fail;refine(KU _ _ p x.src x.dW (hP.grow hb0)).mono ?_
  rintro e W1 ⟨rfl,hc1⟩;have XK:=fD hb0 hc1;obtain⟨hd1,hf1⟩:=yt hc1;rw[g1'.O];go_wp2_with fail;refine(KU _ _ p x.dst x.dW (hP.grow XK)).mono ?_
  rintro e W2 ⟨rfl,hc2⟩;have hc12:=fD hc1 hc2;obtain⟨hd2,hf2⟩:=yt hc12;clear hd1 hf1;rw[g2'.O];go_wp2_with fail;go_ret
  exact⟨gK (by rw[hf'.O]<;>first|rfl|(simp<;>omega)),fD hb0 hc12⟩
theorem jih(p:dG)(s:aI)(h:eX)(W:World)(Bc Bs Bp:Nat)(A1 Ab:Option Addr)(c1 cb:Nat)(hc:W.cell? Bc=some (.func (.func 185) #[] #[.pointer (some Bs),.pointer (some Bp)]))(hBc:Bc<W.heap.size)
  (hs1:W.cell? ⟨Bs,1,none⟩=some (.slice A1 s.ak.length c1)) (hp0:W.cell? Bp=some (.slice Ab p.dP.length cb)) (hBs:Bs<W.heap.size) (hBp:Bp<W.heap.size)
  (hO:oW W W (.slice A1 s.ak.length c1) s.ak) (h0:0<=h.aC) (h72:s.ak.length<=1000) (Ug:∀o,o<s.ak.length->(bK s.ak o).aH.length<=1000):
  Calls prog 188 #[uK h,.pointer (some Bc)] W λe W'=>e=.returned (.bool (!zy p s h))/\Below W W W':=by
 have hb0:Below W W (W.alloc (nC h)):=(aj _ _).alloc (ay _) _;have hl':=ah Ug;have r1:(W.alloc (nC h)).cell? ⟨Bs,1,none⟩=some (.slice A1 s.ak.length c1):=(hb0.cell (p:=⟨Bs,1,none⟩) hBs).trans hs1;have r2:(W.alloc (nC h)).cell? Bp=some (.slice Ab p.dP.length cb):=(hb0.cell (p:=Bp) hBp).trans hp0;have H:=ah (jk8 p s h (W.alloc (nC h)) Bs Bp A1 Ab c1 cb r1 r2 (by simp;omega) (by simp;omega) (hO.up hb0 hb0.size) h0 h72 Ug)
 clear Ug r1 r2;unfold uK;go_enter func188,ntmps188
 go_wp2_with fail;refine H.O.mono ?_
 rintro e W1 ⟨rfl,hc1⟩;go_wp2_with fail;go_ret
 exact⟨rfl,fD hb0 hc1⟩
theorem Y1:Enters prog 188:=enters_of func188 (by kernel_rfl) rfl
theorem jig(p:dG)(x:Move)(W:World)(Bc B:Nat)(Ab As:Option Addr)(cb cs:Nat)(hc:W.cell? Bc=some (.func (.func 186) #[] #[.pointer (some B)]))(hBc:Bc<W.heap.size)
  (h0:W.cell? B=some (.slice Ab p.dP.length cb)) (h1:W.cell? ⟨B,1,none⟩=some (.slice As p.aW.length cs)) (hB:B<W.heap.size)
  (hP:kK W W (.agg (xu p Ab cb As cs)) p):
  Calls prog 190 #[EW x,.pointer (some Bc)] W λe W'=>e=.returned (.bool (!sZ p x))/\Below W W W':=by
 have hb0:Below W W (W.alloc (IE x)):=(aj _ _).alloc (ay _) _;have r1:(W.alloc (IE x)).cell? B=some (.slice Ab p.dP.length cb):=(hb0.cell (p:=B) hB).trans h0;have r2:(W.alloc (IE x)).cell? ⟨B,1,none⟩=some (.slice As p.aW.length cs):=(hb0.cell (p:=⟨B,1,none⟩) hB).trans h1;have H:=ah (jk7 p x (W.alloc (IE x)) B Ab As cb cs r1 r2 (by simp;omega) (hP.grow hb0))
 clear r1 r2;unfold EW;go_enter func190,ntmps190
 go_wp2_with fail;refine H.O.mono ?_
 rintro e W1 ⟨rfl,hc1⟩;go_wp2_with fail;go_ret
 exact⟨rfl,fD hb0 hc1⟩
theorem Y0:Enters prog 190:=enters_of func190 (by kernel_rfl) rfl
theorem jgH(o:Order)(u:Value)(W:World)(hu:Sl mX W W u o.aH):
  Calls prog 139 #[.agg #[o.eH,u]] W λe W'=>e=.returned (.bool (!dM o.aH.length 1 3))/\Below W W W':=by
 obtain⟨A,c,rfl,hl,hA⟩:=hu;have hb0:Below W W (W.alloc (.cells #[o.eH,.slice A o.aH.length c] 114)):=(aj _ _).alloc (ay _) _;have hp:(o.aH.length<1/\dM o.aH.length 1 3=false)\/(1<=o.aH.length/\3<o.aH.length/\dM o.aH.length 1 3=false)\/(1<=o.aH.length/\o.aH.length<=3/\dM o.aH.length 1 3=true):=by
  have h1:=@dZ o.aH.length 1 3;cases hq:dM o.aH.length 1 3<;>simp only[hq,iV,wB,uX]at h1<;>simp only[reduceCtorEq,ni,ql,lC,xP]<;>omega
 rcases hp with⟨g1,hf⟩|⟨g1,g2,hf⟩|⟨g1,g2,hf⟩
 all_goals
  have hf':=ah hf;clear hf;go_enter func139,ntmps139
  go_wp2_with fail;go_ret
  exact⟨gK (by rw[hf'.O]<;>first|rfl|(simp<;>omega)),hb0⟩
theorem X5:Enters prog 139:=enters_of func139 (by kernel_rfl) rfl
end
section
attribute [local go_sem] aV
theorem LU{p:dG}{s:aI}{o:Nat}(ho:o<s.ak.length)(h:xJ p (bK s.ak o)=false):oU p s=false:=by
 unfold oU;rw[jpE Ig ho h];simp
theorem jhB{l:List eX}(h:iI l=true):lV l=0:=by unfold lV;rw[h];rfl
theorem jck(p:dG)(o:Order):(o.eH<0/\xJ p o=false)\/(0<=o.eH/\2<o.eH/\xJ p o=false)\/(0<=o.eH/\o.eH<=2/\(o.aH.any λx=>!ug p x)=true/\xJ p o=false)\/
  (0<=o.eH/\o.eH<=2/\(o.aH.any λx=>!ug p x)=false/\xJ p o=true):=by
 have h:=@FQ p o;rw[GR];cases hq:xJ p o<;>cases hl:o.aH.all (ug p)<;>simp only[hq,hl,iV,wB,uX,ni,ql]at h<;>
  simp only[reduceCtorEq,zK,rW,ni,ql,lC,xP]<;>omega
theorem jbY{p:dG}{s:aI}(h:s.ak.all (xJ p)=true):oU p s=(iI s.aA&&(!(s.aA.any λx=>!zy p s x)&&(!(s.aF.any λx=>!sZ p x)&&(vF p s.jf 0&&(vF p s.O 0&&vF p s.dB (-1048576)))))):=by
 unfold oU;rw[h,GR,GR];simp[Bool.and_assoc]
theorem jk9(w:World)(v vs:Value)(p:dG)(s:aI)(hp:kK w w v p)(hv:kG w w vs s)(hz:fU p=0)(h4:s.ak.length<=4)(jjx:∀o,o<s.ak.length->(bK s.ak o).aH.length<=1000):
  Calls prog 140 #[v,vs] w λe w'=>e=.returned (.bool (oU p s))/\Below w w w':=by
 have hP:=hp;obtain⟨_,_,rfl,⟨Ab,cb,rfl,hlb,hb⟩,⟨As,cs,rfl,hls,hs⟩⟩:=hp;have hS:=hv;obtain⟨_,_,_,_,_,_,_,rfl,⟨A0,c0,vs0,rfl,hl0,hm0,ha0,hr0⟩,⟨A1,c1,vs1,rfl,hl1,hm1,ha1,hr1⟩,⟨A2,c2,rfl,hl2,ha2⟩,⟨A3,c3,rfl,hl3,ha3⟩,⟨A4,c4,rfl,hl4,ha4⟩,⟨A5,c5,rfl,hl5,ha5⟩,⟨A6,c6,rfl,Jb,ha6⟩⟩:=hv;have hb0:Below w w ((w.alloc (kD p Ab cb As cs)).alloc (kV s A0 c0 A1 c1 A2 c2 A3 c3 A4 c4 A5 c5 A6 c6)):=((aj _ _).alloc (ay _) _).alloc (by simp) _
 have kX:w.heap.size+1<((w.alloc (kD p Ab cb As cs)).alloc (kV s A0 c0 A1 c1 A2 c2 A3 c3 A4 c4 A5 c5 A6 c6)).heap.size:=by simp
 have hz0:(((w.alloc (kD p Ab cb As cs)).alloc (kV s A0 c0 A1 c1 A2 c2 A3 c3 A4 c4 A5 c5 A6 c6)).cell? w=some (.slice Ab p.dP.length cb)/\((w.alloc (kD p Ab cb As cs)).alloc (kV s A0 c0 A1 c1 A2 c2 A3 c3 A4 c4 A5 c5 A6 c6)).cell? ⟨w.heap.size,1,none⟩=some (.slice As p.aW.length cs))/\
   ((w.alloc (kD p Ab cb As cs)).alloc (kV s A0 c0 A1 c1 A2 c2 A3 c3 A4 c4 A5 c5 A6 c6)).cell? ⟨w.heap.size+1,1,none⟩=some (.slice A1 s.ak.length c1)/\((w.alloc (kD p Ab cb As cs)).alloc (kV s A0 c0 A1 c1 A2 c2 A3 c3 A4 c4 A5 c5 A6 c6)).cell? ⟨w.heap.size+1,2,none⟩=some (.slice A2 s.aA.length c2)/\((w.alloc (kD p Ab cb As cs)).alloc (kV s A0 c0 A1 c1 A2 c2 A3 c3 A4 c4 A5 c5 A6 c6)).cell? ⟨w.heap.size+1,3,none⟩=some (.slice A3 s.aF.length c3)/\
   ((w.alloc (kD p Ab cb As cs)).alloc (kV s A0 c0 A1 c1 A2 c2 A3 c3 A4 c4 A5 c5 A6 c6)).cell? ⟨w.heap.size+1,4,none⟩=some (.slice A4 s.jf.length c4)/\((w.alloc (kD p Ab cb As cs)).alloc (kV s A0 c0 A1 c1 A2 c2 A3 c3 A4 c4 A5 c5 A6 c6)).cell? ⟨w.heap.size+1,5,none⟩=some (.slice A5 s.O.length c5)/\((w.alloc (kD p Ab cb As cs)).alloc (kV s A0 c0 A1 c1 A2 c2 A3 c3 A4 c4 A5 c5 A6 c6)).cell? ⟨w.heap.size+1,6,none⟩=some (.slice A6 s.dB.length c6):=by simp
 have hO:=ah (λW (hW:Below w w W)=>(oW.up ⟨A1,c1,vs1,rfl,hl1,hm1,ha1,hr1⟩ hW hW.size:oW W W (.slice A1 s.ak.length c1) s.ak))
 have hH:=ah (λW (hW:Below w w W)=>(Sl.up ⟨A2,c2,rfl,hl2,ha2⟩ hW hW.size:Sl iD W W (.slice A2 s.aA.length c2) s.aA))
 have hM:=ah (λW (hW:Below w w W)=>(Sl.up ⟨A3,c3,rfl,hl3,ha3⟩ hW hW.size:Sl oC W W (.slice A3 s.aF.length c3) s.aF))
 have hI:=ah (λW (hW:Below w w W)=>(Sl.up ⟨A4,c4,rfl,hl4,ha4⟩ hW hW.size:Sl iW W W (.slice A4 s.jf.length c4) s.jf))
 have hU:=ah (λW (hW:Below w w W)=>(Sl.up ⟨A5,c5,rfl,hl5,ha5⟩ hW hW.size:Sl iW W W (.slice A5 s.O.length c5) s.O))
 have hX:=ah (λW (hW:Below w w W)=>(Sl.up ⟨A6,c6,rfl,Jb,ha6⟩ hW hW.size:Sl iW W W (.slice A6 s.dB.length c6) s.dB))
 have hP':=ah (λW (hW:Below w w W)=>hP.up hW hW.size)
 have hz':=ah hz;have jhc:=ah jjx;clear hz jjx hP;go_enter func140,ntmps140
 go_wp2_with fail;generalize hW0:(w.alloc (kD p Ab cb As cs)).alloc (kV s A0 c0 A1 c1 A2 c2 A3 c3 A4 c4 A5 c5 A6 c6)=W0 at hb0 kX hz0 ⊢
 have hz0':=ah hz0;clear hW0 hz0;have um:w.heap.size<W0.heap.size:=by omega
 have hK:=ah (λW (hW:Below W0 W0 W)=>And.intro (And.intro ((hW.cell (p:=w) um).trans hz0'.O.1.1) ((hW.cell (p:=⟨w.heap.size,1,none⟩) um).trans hz0'.O.1.2))
  (And.intro ((hW.cell (p:=⟨w.heap.size+1,1,none⟩) kX).trans hz0'.O.2.1) (And.intro ((hW.cell (p:=⟨w.heap.size+1,2,none⟩) kX).trans hz0'.O.2.2.1) (And.intro ((hW.cell (p:=⟨w.heap.size+1,3,none⟩) kX).trans hz0'.O.2.2.2.1)
  (And.intro ((hW.cell (p:=⟨w.heap.size+1,4,none⟩) kX).trans hz0'.O.2.2.2.2.1) (And.intro ((hW.cell (p:=⟨w.heap.size+1,5,none⟩) kX).trans hz0'.O.2.2.2.2.2.1) ((hW.cell (p:=⟨w.heap.size+1,6,none⟩) kX).trans hz0'.O.2.2.2.2.2.2)))))))
 obtain⟨⟨y0,y1⟩,x1,x2,x3,x4,x5,x6⟩:=hK.O W0 (aj _ _);go_loopw[12,6] (λi _ wr=>∃k:Nat,k<=s.ak.length/\i=.int .i64 k/\(∀j,j<k->xJ p (bK s.ak j)=true)/\Below W0.heap.size W0 wr) (λi _ _=>s.ak.length - (RowKit.intOf i).toNat)
 case atStart=>exact⟨0,aN _,rfl,λj hj=>by omega,aj _ _⟩
 case round=>
  clear y0 y1 x1 x2 x3 x4 x5 x6;obtain⟨k,hk,rfl,kQ,hbw⟩:=hrel;have hall':=ah kQ;clear kQ;have hB:=fD hb0 hbw;by_cases hlt:k<s.ak.length
  ·obtain⟨A',c',I8,Gv,d0,d1,hsl⟩:=(hO.O wr hB).aC hlt;have hba:Below W0 W0 (wr.alloc (.cells #[.int .i64 (bK s.ak k).eH,.slice A' (bK s.ak k).aH.length c'] 114)):=hbw.alloc hbw.size _;have hwa:Below wr wr (wr.alloc (.cells #[.int .i64 (bK s.ak k).eH,.slice A' (bK s.ak k).aH.length c'] 114)):=(aj _ _).alloc (ay _) _;rcases jck p (bK s.ak k)with⟨g1,hf⟩|⟨g1,g2,hf⟩|⟨g1,g2,g3,hf⟩|⟨g1,g2,g3,hf⟩
   ·have dw:=ah (LU hlt hf);clear hf;go_wp2_with fail;go_ret
    exact⟨gK (by rw[dw.O]),fD hb0 hba⟩
   ·have dw:=ah (LU hlt hf);clear hf;go_wp2_with fail;go_ret
    exact⟨gK (by rw[dw.O]),fD hb0 hba⟩
   ·have dw:=ah (LU hlt hf);have g3':=ah g3;clear hf g3;go_wp2_with fail;refine(yB _ _ (bK s.ak k).aH 183 #[.pointer (some w)] (λx=>!ug p x) QJ (hsl.grow hwa) (λj _ W hW=>by
     have hW2:=fD hba hW;obtain⟨⟨a0,a1⟩,_⟩:=hK.O W hW2;exact jbW p _ W w hz'.O Ab As cb cs a0 a1 (aJ um hW2.size) (hP'.O W (fD hb0 hW2)))).mono ?_
    rintro e W2 ⟨rfl,hb2⟩;rw[g3'.O];have Ul:=fD hba hb2;go_wp2_with fail;go_ret
    exact⟨gK (by rw[dw.O]),fD hb0 Ul⟩
   ·have g3':=ah g3;have hf':=ah hf;clear hf g3;go_wp2_with fail;refine(yB _ _ (bK s.ak k).aH 183 #[.pointer (some w)] (λx=>!ug p x) QJ (hsl.grow hwa) (λj _ W hW=>by
     have hW2:=fD hba hW;obtain⟨⟨a0,a1⟩,_⟩:=hK.O W hW2;exact jbW p _ W w hz'.O Ab As cb cs a0 a1 (aJ um hW2.size) (hP'.O W (fD hb0 hW2)))).mono ?_
    rintro e W2 ⟨rfl,hb2⟩;rw[g3'.O];have Ul:=fD hba hb2;go_wp2_with fail;go_roundw
    case rel=>
     refine⟨k+1,by omega,by go_num,λj hj=>?_,Ul⟩
     rcases bf.1 hj with h|rfl
     ·exact hall'.O j h
     ·exact hf'.O
    case measure=>simp[dY];omega
  ·obtain rfl:k=s.ak.length:=by omega
   have hrest:=ah (jbY (ET Ig hall'.O));obtain⟨⟨y0,y1⟩,x1,x2,x3,x4,x5,x6⟩:=hK.O wr hbw;have fB:w.heap.size+1<wr.heap.size:=aJ kX hbw.size;have fC:w.heap.size<wr.heap.size:=by omega
   have hba:Below W0 W0 ((wr.alloc (.cells #[.func (.func 185) #[] #[.pointer (some ⟨w.heap.size+1,0,none⟩),.pointer (some w)]] 140)).alloc (.cells #[.func (.func 186) #[] #[.pointer (some w)]] 201)):=(hbw.alloc hbw.size _).alloc (by have:=hbw.size;simp;omega) _
   have hbc:wr.heap.size+1<((wr.alloc (.cells #[.func (.func 185) #[] #[.pointer (some ⟨w.heap.size+1,0,none⟩),.pointer (some w)]] 140)).alloc (.cells #[.func (.func 186) #[] #[.pointer (some w)]] 201)).heap.size:=by simp
   have hz9:((wr.alloc (.cells #[.func (.func 185) #[] #[.pointer (some ⟨w.heap.size+1,0,none⟩),.pointer (some w)]] 140)).alloc (.cells #[.func (.func 186) #[] #[.pointer (some w)]] 201)).cell? wr=some (.func (.func 185) #[] #[.pointer (some ⟨w.heap.size+1,0,none⟩),.pointer (some w)])/\
     ((wr.alloc (.cells #[.func (.func 185) #[] #[.pointer (some ⟨w.heap.size+1,0,none⟩),.pointer (some w)]] 140)).alloc (.cells #[.func (.func 186) #[] #[.pointer (some w)]] 201)).cell? ⟨wr.heap.size+1,0,none⟩=some (.func (.func 186) #[] #[.pointer (some w)]):=by simp
   go_wp2_with fail;generalize hW1:(wr.alloc (.cells #[.func (.func 185) #[] #[.pointer (some ⟨w.heap.size+1,0,none⟩),.pointer (some w)]] 140)).alloc (.cells #[.func (.func 186) #[] #[.pointer (some w)]] 201)=W1 at hba hbc hz9 ⊢
   have jrn:=ah hz9;clear hW1 hz9 y0 y1 x1 x2 x3 x4 x5 x6;have hB1:=fD hb0 hba;refine(VL _ _ s.aA (hH.O W1 hB1)).mono ?_
   rintro e W2 ⟨rfl,hb2⟩;have jl9:=fD hba hb2;have hB2:=fD hb0 jl9;cases hok:iI s.aA
   ·have hc:lV s.aA=1:=by unfold lV;rw[hok];rfl
    have dw:=ah (show oU p s=false by rw[hrest.O,hok];rfl)
    rw[hc];clear hc hok;go_wp2_with fail;go_ret
    exact⟨gK (by rw[dw.O]),hB2⟩
   ·have hc:lV s.aA=0:=jhB hok;have hn0:=ah (λk (hk:k<s.aA.length)=>(I5 hok hk).1.1)
    have hr1:=ah (hrest.O.trans (by rw[hok,lQ]))
    rw[hc];clear hc hok;obtain⟨⟨y0,y1⟩,x1,x2,x3,x4,x5,x6⟩:=hK.O W2 jl9;go_wp2_with fail;clear y0 y1 x1 x2 x3 x4 x5 x6;have jsl:wr.heap.size<W1.heap.size:=by omega
    refine(Uu _ _ s.aA 188 #[.pointer (some wr)] (λx=>!zy p s x) Y1 (hH.O W2 hB2) (λj hj W hW=>by
     have hW1:=fD hb2 hW;have hW2:=fD jl9 hW;obtain⟨⟨a0,a1⟩,e1,_⟩:=hK.O W hW2;have hBW:=fD hb0 hW2;exact jih p s _ W wr (w.heap.size+1) w A1 Ab c1 cb ((hW1.cell (p:=wr) jsl).trans jrn.O.1) (aJ jsl hW1.size) e1 a0 (aJ kX hW2.size) (aJ um hW2.size)
      (hO.O W hBW) (hn0.O j hj) (by omega) jhc.O)).mono ?_
    rintro e W3 ⟨rfl,hb3⟩;have jl8:=fD jl9 hb3;have hB3:=fD hb0 jl8;cases hh:(s.aA.any λx=>!zy p s x)
    ·have hr2:=ah (hr1.O.trans (by rw[hh,rW,lQ]))
     obtain⟨⟨y0,y1⟩,x1,x2,x3,x4,x5,x6⟩:=hK.O W3 jl8;clear hh;go_wp2_with fail;clear y0 y1 x1 x2 x3 x4 x5 x6;refine(Ut _ _ s.aF 190 #[.pointer (some ⟨wr.heap.size+1,0,none⟩)] (λx=>!sZ p x) Y0 (hM.O W3 hB3) (λj hj W hW=>by
      have Rx:=fD hb2 hb3;have hW1:=fD Rx hW;have hW3:=fD jl8 hW;obtain⟨⟨a0,a1⟩,e1,_⟩:=hK.O W hW3;have hBW:=fD hb0 hW3;exact jig p _ W (wr.heap.size+1) w Ab As cb cs ((hW1.cell (p:=⟨wr.heap.size+1,0,none⟩) hbc).trans jrn.O.2) (aJ hbc hW1.size) a0 a1 (aJ um hW3.size) (hP'.O W hBW))).mono ?_
     rintro e W4 ⟨rfl,hb4⟩;have jo6:=fD jl8 hb4;have hB4:=fD hb0 jo6;cases hmv:(s.aF.any λx=>!sZ p x)
     ·have hr3:=ah (hr2.O.trans (by rw[hmv,rW,lQ]))
      obtain⟨⟨y0,y1⟩,x1,x2,x3,x4,x5,x6⟩:=hK.O W4 jo6;clear hmv;go_wp2_with fail;clear y0 y1 x1 x2 x3 x4 x5 x6;refine(jie _ _ _ p s.jf 0 (hP'.O W4 hB4) (hI.O W4 hB4) hz'.O).mono ?_
      rintro e W5 ⟨rfl,hb5⟩;have jo5:=fD jo6 hb5;have YV:=fD hb0 jo5;cases hq1:vF p s.jf 0
      ·have dw:=ah (show oU p s=false by rw[hr3.O,hq1];rfl)
       clear hq1;go_wp2_with fail;go_ret
       exact⟨gK (by rw[dw.O]),YV⟩
      ·have hr4:=ah (hr3.O.trans (by rw[hq1,lQ]))
       obtain⟨⟨y0,y1⟩,x1,x2,x3,x4,x5,x6⟩:=hK.O W5 jo5;clear hq1;go_wp2_with fail;clear y0 y1 x1 x2 x3 x4 x5 x6;refine(jie _ _ _ p s.O 0 (hP'.O W5 YV) (hU.O W5 YV) hz'.O).mono ?_
       rintro e W6 ⟨rfl,hb6⟩;have jsm:=fD jo5 hb6;have hB6:=fD hb0 jsm;cases hq2:vF p s.O 0
       ·have dw:=ah (show oU p s=false by rw[hr4.O,hq2];rfl)
        clear hq2;go_wp2_with fail;go_ret
        exact⟨gK (by rw[dw.O]),hB6⟩
       ·have hr5:=ah (hr4.O.trans (by rw[hq2,lQ]))
        obtain⟨⟨y0,y1⟩,x1,x2,x3,x4,x5,x6⟩:=hK.O W6 jsm;clear hq2;go_wp2_with fail;clear y0 y1 x1 x2 x3 x4 x5 x6;refine(jie _ _ _ p s.dB (-1048576) (hP'.O W6 hB6) (hX.O W6 hB6) hz'.O).mono ?_
        rintro e W7 ⟨rfl,hb7⟩;have hB7:=fD hB6 hb7;go_wp2_with fail;go_ret
        exact⟨gK (by rw[hr5.O]),hB7⟩
     ·have dw:=ah (show oU p s=false by rw[hr2.O,hmv];rfl)
      clear hmv;go_wp2_with fail;go_ret
      exact⟨gK (by rw[dw.O]),hB4⟩
    ·have dw:=ah (show oU p s=false by rw[hr1.O,hh];rfl)
     clear hh;go_wp2_with fail;go_ret
     exact⟨gK (by rw[dw.O]),hB3⟩
end
end Wh
