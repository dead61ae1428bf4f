/- Texts of the claim, joined. -/
import Derived.RegionTactic
import Derived.Laws.Strings2
import Derived.Test.YtfhfkijmebhgmaaGreatQ40
set_option maxHeartbeats 20000000
set_option maxRecDepth 100000
namespace Wh
open Go Go.RowKit Go.Shelf Go.Proofs Tryz
attribute [local go_sem] aT jW jm kC
def jjY(l:List Nat)(w:World)(e:Ending)(w':World):Prop:=
 Below w.heap.size w w'/\((oz l=0/\e=.returned (.tuple #[.agg #[.int .i64 0,.int .i64 0,.int .i64 0,.int .i64 0,.int .i64 0,.slice none 0 0],.int .i64 0]))\/
  (oz l≠0/\∃vl,e=.returned (.tuple #[.agg #[.int .i64 (yI l).dW,.int .i64 (yI l).a,.int .i64 (yI l).b,.int .i64 (yI l).c,.int .i64 (yI l).n,vl],.int .i64 (oz l)])/\Own kP 4 44 w' w.heap.size vl (yI l).aH))
theorem Tv{l:List Nat}(h:∀n∈l,n<256)(i:Nat):dI l i<256:=by
 unfold dI;by_cases hi:i<l.length
 ·rw[dU,bf hi]
  exact h _ (bU hi)
 ·rw[dU,kZ (by omega)]
  simp
theorem jgD{l:List Nat}(hb:∀n∈l,n<256)(i:Nat)(h:i<(pz l).size):(((pz l)[i]'h).toNat:Int)=(dI l i:Int):=by
 have hi:i<l.length:=by rw[Gy]at h;exact h
 have e:(pz l)[i]'h=UInt8.ofNat l[i]:=by
  show(pz l).data[i]=_;simp[pz]
 have hn:=hb _ (bU hi);rw[e];unfold dI;rw[dU,bf hi]
 simp
 omega
theorem Ko(l:List Nat)(a j:Nat):dI (l.drop a) j=dI l (a+j):=by
 unfold dI;simp[List.getD]
theorem jhr(w:World)(l:List Nat)(hb:∀n∈l,n<256):Calls prog 86 #[.string (pz l)] w (jjY l w):=by
 have hsz:=Gy l;have hget:=jgD hb;have hb5:=Tv hb 5;have hwi:∀i,wrap64 (dI l i:Int)=dI l i:=λi=>by have:=Tv hb i;unfold wrap64;omega
 have js3:∀i,IntKind.i64.wrap (dI l i:Int)=dI l i:=λi=>aN _ (by have:=Tv hb i;omega)
 have hx0:iV (w.alloc (.cells #[.int .i64 0,.int .i64 0,.int .i64 0,.int .i64 0,.int .i64 0,.slice none 0 0] 34)) w.heap.size 34 [.int .i64 0,.int .i64 0,.int .i64 0,.int .i64 0,.int .i64 0,.slice none 0 0]:=iV.new _ _ _;have hB0:Below w.heap.size w (w.alloc (.cells #[.int .i64 0,.int .i64 0,.int .i64 0,.int .i64 0,.int .i64 0,.slice none 0 0] 34)):=(aj _ _).alloc (au _) _;have hb':=ah hb;have hx0':=ah hx0;clear hb hx0;go_enter func86,ntmps86
 by_cases h6:l.length<6
 ·have h6i:(l.length:Int)<6:=by omega
  have hz:=ah (show oz l=0 by unfold oz;rw[aB h6])
  clear hget hb5 hwi js3;go_wp2_with (refine oI rfl 34 (.tmp 2) (.tmp 10) rfl w.heap.size #[.int .i64 0,.int .i64 0,.int .i64 0,.int .i64 0,.int .i64 0,.slice none 0 0] rfl rfl 34 #[.int .i64 0,.int .i64 0,.int .i64 0,.int .i64 0,.int .i64 0,.slice none 0 0] hx0'.O (by kernel_rfl) rfl (by simp[Value.oneCell']) ?_;refine aW ?_)
  unfold Hid;have uO:iV ((w.alloc (.cells #[.int .i64 0,.int .i64 0,.int .i64 0,.int .i64 0,.int .i64 0,.slice none 0 0] 34)).setRow w.heap.size #[.int .i64 0,.int .i64 0,.int .i64 0,.int .i64 0,.int .i64 0,.slice none 0 0]) w.heap.size 34 [.int .i64 0,.int .i64 0,.int .i64 0,.int .i64 0,.int .i64 0,.slice none 0 0]:=iV.row hx0'.O [.int .i64 0,.int .i64 0,.int .i64 0,.int .i64 0,.int .i64 0,.slice none 0 0];have LD:=DL hB0 (au w.heap.size) #[.int .i64 0,.int .i64 0,.int .i64 0,.int .i64 0,.int .i64 0,.slice none 0 0];generalize (w.alloc (.cells #[.int .i64 0,.int .i64 0,.int .i64 0,.int .i64 0,.int .i64 0,.slice none 0 0] 34)).setRow w.heap.size #[.int .i64 0,.int .i64 0,.int .i64 0,.int .i64 0,.int .i64 0,.slice none 0 0]=w9 at uO LD ⊢
  have a0:=uO.cell (j:=0) rfl;have a1:=uO.cell (j:=1) rfl;have a2:=uO.cell (j:=2) rfl;have a3:=uO.cell (j:=3) rfl;have a4:=uO.cell (j:=4) rfl;have a5:=uO.cell (j:=5) rfl;go_wp2_with fail;exact fD (v:=.tuple #[.agg #[.int .i64 0,.int .i64 0,.int .i64 0,.int .i64 0,.int .i64 0,.slice none 0 0],.int .i64 0]) (by simp[results,results86,go_sem,a0,a1,a2,a3,a4,a5]) rfl ⟨LD,.inl ⟨hz.O,rfl⟩⟩
 ·have h6i:¬(l.length:Int)<6:=by omega
  have h5i:(5:Int)<(l.length:Int):=by omega
  have hw1:IntKind.i64.wrap (4*(dI l 5:Int))=4*(dI l 5:Int):=aN _ (by omega)
  have hw2:IntKind.i64.wrap (6+4*(dI l 5:Int))=6+4*(dI l 5:Int):=aN _ (by omega)
  by_cases h3:3<dI l 5
  ·have h3i:(3:Int)<(dI l 5:Int):=by omega
   have hz:=ah (show oz l=0 by unfold oz;rw[ay h6,aB (.inl h3)])
   go_wp2_with (refine oI rfl 34 (.tmp 2) (.tmp 25) rfl w.heap.size #[.int .i64 0,.int .i64 0,.int .i64 0,.int .i64 0,.int .i64 0,.slice none 0 0] rfl rfl 34 #[.int .i64 0,.int .i64 0,.int .i64 0,.int .i64 0,.int .i64 0,.slice none 0 0] hx0'.O (by kernel_rfl) rfl (by simp[Value.oneCell']) ?_;refine aW ?_)
   unfold Hid;have uO:iV ((w.alloc (.cells #[.int .i64 0,.int .i64 0,.int .i64 0,.int .i64 0,.int .i64 0,.slice none 0 0] 34)).setRow w.heap.size #[.int .i64 0,.int .i64 0,.int .i64 0,.int .i64 0,.int .i64 0,.slice none 0 0]) w.heap.size 34 [.int .i64 0,.int .i64 0,.int .i64 0,.int .i64 0,.int .i64 0,.slice none 0 0]:=iV.row hx0'.O [.int .i64 0,.int .i64 0,.int .i64 0,.int .i64 0,.int .i64 0,.slice none 0 0];have LD:=DL hB0 (au w.heap.size) #[.int .i64 0,.int .i64 0,.int .i64 0,.int .i64 0,.int .i64 0,.slice none 0 0];generalize (w.alloc (.cells #[.int .i64 0,.int .i64 0,.int .i64 0,.int .i64 0,.int .i64 0,.slice none 0 0] 34)).setRow w.heap.size #[.int .i64 0,.int .i64 0,.int .i64 0,.int .i64 0,.int .i64 0,.slice none 0 0]=w9 at uO LD ⊢
   have a0:=uO.cell (j:=0) rfl;have a1:=uO.cell (j:=1) rfl;have a2:=uO.cell (j:=2) rfl;have a3:=uO.cell (j:=3) rfl;have a4:=uO.cell (j:=4) rfl;have a5:=uO.cell (j:=5) rfl;go_wp2_with fail;exact fD (v:=.tuple #[.agg #[.int .i64 0,.int .i64 0,.int .i64 0,.int .i64 0,.int .i64 0,.slice none 0 0],.int .i64 0]) (by simp[results,results86,go_sem,a0,a1,a2,a3,a4,a5]) rfl ⟨LD,.inl ⟨hz.O,rfl⟩⟩
  ·have h3i:¬(3:Int)<(dI l 5:Int):=by omega
   by_cases hn:l.length<6+4*dI l 5
   ·have hni:(l.length:Int)<6+4*(dI l 5:Int):=by omega
    have hz:=ah (show oz l=0 by unfold oz;rw[ay h6,aB (.inr hn)])
    go_wp2_with (refine oI rfl 34 (.tmp 2) (.tmp 25) rfl w.heap.size #[.int .i64 0,.int .i64 0,.int .i64 0,.int .i64 0,.int .i64 0,.slice none 0 0] rfl rfl 34 #[.int .i64 0,.int .i64 0,.int .i64 0,.int .i64 0,.int .i64 0,.slice none 0 0] hx0'.O (by kernel_rfl) rfl (by simp[Value.oneCell']) ?_;refine aW ?_)
    unfold Hid;have uO:iV ((w.alloc (.cells #[.int .i64 0,.int .i64 0,.int .i64 0,.int .i64 0,.int .i64 0,.slice none 0 0] 34)).setRow w.heap.size #[.int .i64 0,.int .i64 0,.int .i64 0,.int .i64 0,.int .i64 0,.slice none 0 0]) w.heap.size 34 [.int .i64 0,.int .i64 0,.int .i64 0,.int .i64 0,.int .i64 0,.slice none 0 0]:=iV.row hx0'.O [.int .i64 0,.int .i64 0,.int .i64 0,.int .i64 0,.int .i64 0,.slice none 0 0];have LD:=DL hB0 (au w.heap.size) #[.int .i64 0,.int .i64 0,.int .i64 0,.int .i64 0,.int .i64 0,.slice none 0 0];generalize (w.alloc (.cells #[.int .i64 0,.int .i64 0,.int .i64 0,.int .i64 0,.int .i64 0,.slice none 0 0] 34)).setRow w.heap.size #[.int .i64 0,.int .i64 0,.int .i64 0,.int .i64 0,.int .i64 0,.slice none 0 0]=w9 at uO LD ⊢
    have a0:=uO.cell (j:=0) rfl;have a1:=uO.cell (j:=1) rfl;have a2:=uO.cell (j:=2) rfl;have a3:=uO.cell (j:=3) rfl;have a4:=uO.cell (j:=4) rfl;have a5:=uO.cell (j:=5) rfl;go_wp2_with fail;exact fD (v:=.tuple #[.agg #[.int .i64 0,.int .i64 0,.int .i64 0,.int .i64 0,.int .i64 0,.slice none 0 0],.int .i64 0]) (by simp[results,results86,go_sem,a0,a1,a2,a3,a4,a5]) rfl ⟨LD,.inl ⟨hz.O,rfl⟩⟩
   ·have hni:¬(l.length:Int)<6+4*(dI l 5:Int):=by omega
    have hal:=ah (show oz l=6+4*dI l 5 by unfold oz;rw[ay h6,ay (by omega)])
    have i0:(0:Int)<(l.length:Int):=by omega
    have i1:(1:Int)<(l.length:Int):=by omega
    have i2:(2:Int)<(l.length:Int):=by omega
    have i3:(3:Int)<(l.length:Int):=by omega
    have i4:(4:Int)<(l.length:Int):=by omega
    go_wp2_with fail;go_region
    have hx1:iV (((w.alloc (.cells #[.int .i64 0,.int .i64 0,.int .i64 0,.int .i64 0,.int .i64 0,.slice none 0 0] 34)).alloc (.cells #[.int .i64 (dI l 0),.int .i64 (dI l 1),.int .i64 (dI l 2),.int .i64 (dI l 3),.int .i64 (dI l 4),.slice none 0 0] 34)).drew) (w.heap.size+1) 34 [.int .i64 (dI l 0),.int .i64 (dI l 1),.int .i64 (dI l 2),.int .i64 (dI l 3),.int .i64 (dI l 4),.slice none 0 0]:=by
     have h:=iV.new (w.alloc (.cells #[.int .i64 0,.int .i64 0,.int .i64 0,.int .i64 0,.int .i64 0,.slice none 0 0] 34)) 34 #[.int .i64 (dI l 0),.int .i64 (dI l 1),.int .i64 (dI l 2),.int .i64 (dI l 3),.int .i64 (dI l 4),.slice none 0 0];rw[cO]at h
     exact h
    have jh4:=hx0'.O.alloc (.cells #[.int .i64 (dI l 0),.int .i64 (dI l 1),.int .i64 (dI l 2),.int .i64 (dI l 3),.int .i64 (dI l 4),.slice none 0 0] 34)|>.drew
    have hB1:=(hB0.alloc hB0.size (.cells #[.int .i64 (dI l 0),.int .i64 (dI l 1),.int .i64 (dI l 2),.int .i64 (dI l 3),.int .i64 (dI l 4),.slice none 0 0] 34)).drew;generalize ((w.alloc (.cells #[.int .i64 0,.int .i64 0,.int .i64 0,.int .i64 0,.int .i64 0,.slice none 0 0] 34)).alloc (.cells #[.int .i64 (dI l 0),.int .i64 (dI l 1),.int .i64 (dI l 2),.int .i64 (dI l 3),.int .i64 (dI l 4),.slice none 0 0] 34)).drew=W1 at hx1 jh4 hB1 ⊢
    have hxz:=ah jh4;have hxa:=ah hx1;clear hx0' hB0 hx1 jh4 i0 i1 i2 i3 i4;obtain⟨b5,jn2⟩:∃b5,dI l 5=b5:=⟨_,rfl⟩;rw[jn2]at hal hb5 hw1 hw2 h3 h3i hn hni ⊢
    have jt0:=ah jn2;clear jn2;go_wp2_with fail;go_loopw[6] (λi wr=>∃(k:Nat) (vl:Value),k<=b5/\i=.int .i64 ((6+4*k:Nat):Int)/\iV wr w.heap.size 34 [.int .i64 0,.int .i64 0,.int .i64 0,.int .i64 0,.int .i64 0,.slice none 0 0]/\iV wr (w.heap.size+1) 34 [.int .i64 (dI l 0),.int .i64 (dI l 1),.int .i64 (dI l 2),.int .i64 (dI l 3),.int .i64 (dI l 4),vl]/\Own kP 4 44 wr w.heap.size vl (ql (l.drop 6) k)/\Below w.heap.size w wr) (λi _=>6+4*b5 - (RowKit.intOf i).toNat)
    case atStart=>exact⟨0,_,aK _,rfl,hxz.O,hxa.O,Own.nil,hB1⟩
    case round=>
     clear hxz hxa hB1;obtain⟨k,vl,hk,rfl,hxz,hxa,hO,hBr⟩:=hrel;obtain⟨A1,c1,hv1⟩:=hO.isSlice;obtain⟨n1,hn1⟩:∃n1,(ql (l.drop 6) k).length=n1:=⟨_,rfl⟩;rw[hn1]at hv1
     subst hv1;have kD:(ql (l.drop 6) k).length=k:=by
      have:∀(m:Nat) (t:List Nat),(ql t m).length=m:=λm=>by
       induction m with
       |zero=>intro t;rfl
       |succ m ih=>intro t;rw[ql,dw,ih]
      exact this _ _
     have jf5:=ah hxz;have V4:=ah hxa;have hO':=ah hO;clear hxz hxa hO hn1;obtain⟨m,hm⟩:∃m,6+4*k=m:=⟨_,rfl⟩;rw[hm];by_cases hlt:k<b5
     ·have hmi:(m:Int)<6+4*(b5:Int):=by omega
      have j0:(m:Int)<(l.length:Int):=by omega
      have j1:(m:Int)+1<(l.length:Int):=by omega
      have j2:(m:Int)+2<(l.length:Int):=by omega
      have j3:(m:Int)+3<(l.length:Int):=by omega
      have g1:(0:Int)<=(m:Int)+1:=by omega
      have g2:(0:Int)<=(m:Int)+2:=by omega
      have g3:(0:Int)<=(m:Int)+3:=by omega
      have v1:((m:Int)+1).toNat=m+1:=by omega
      have v2:((m:Int)+2).toNat=m+2:=by omega
      have v3:((m:Int)+3).toNat=m+3:=by omega
      have u1:IntKind.i64.wrap ((m:Int)+1)=(m:Int)+1:=aN _ (by omega)
      have u2:IntKind.i64.wrap ((m:Int)+2)=(m:Int)+2:=aN _ (by omega)
      have u3:IntKind.i64.wrap ((m:Int)+3)=(m:Int)+3:=aN _ (by omega)
      have u4:IntKind.i64.wrap ((m:Int)+4)=(m:Int)+4:=aN _ (by omega)
      have hln:=ah (show ql (l.drop 6) (k+1)=ql (l.drop 6) k++[⟨dI l m,dI l (m+1),dI l (m+2),dI l (m+3)⟩]by
       rw[LY,Ko,Ko,Ko,Ko,<- hm];rfl)
      have x5:=V4.O.cell (j:=5) rfl;have lx:=V4.O.lt;have hbs:=hBr.size;go_wp2_with fail;refine qZ 23 [λgq _=>gq 47=.pointer (some ⟨w.heap.size+1,5,none⟩),λgq _=>gq 48=.slice A1 n1 c1,λgq _=>gq 49=.string (pz l),λgq _=>gq 50=.int .i64 m,λgq _=>gq 51=.int .u8 (dI l m),λgq _=>gq 52=.int .i64 (dI l m),λgq _=>gq 53=.string (pz l),λgq _=>gq 54=.int .i64 m,λgq _=>gq 55=.int .i64 ((m:Int)+1),λgq _=>gq 56=.int .u8 (dI l (m+1)),λgq _=>gq 57=.int .i64 (dI l (m+1)),λgq _=>gq 58=.string (pz l),λgq _=>gq 59=.int .i64 m,λgq _=>gq 60=.int .i64 ((m:Int)+2),λgq _=>gq 61=.int .u8 (dI l (m+2)),λgq _=>gq 62=.int .i64 (dI l (m+2)),λgq _=>gq 63=.string (pz l),λgq _=>gq 64=.int .i64 m,λgq _=>gq 65=.int .i64 ((m:Int)+3),λgq _=>gq 66=.int .u8 (dI l (m+3)),λgq _=>gq 67=.int .i64 (dI l (m+3)),λgq _=>gq 68=.agg #[.int .i64 (dI l m),.int .i64 (dI l (m+1)),.int .i64 (dI l (m+2)),.int .i64 (dI l (m+3))],λgq w'=>(λv w'=>∃bb,v=.slice (some ⟨bb,0,none⟩) 1 1/\iV w' bb 44 [.int .i64 (dI l m),.int .i64 (dI l (m+1)),.int .i64 (dI l (m+2)),.int .i64 (dI l (m+3))]) (gq 69) w'] (by kernel_rfl) (by kernel_rfl) rfl (by kernel_rfl) ?_ (λf W2 hb2 hR=>?_)
      simp only[bC,bV];refine dX.cons (iR.val rfl rfl (λgq w' hb ho hd=>?_)) ?_
      ·have e5:=ho 5 rfl;go_simp
      refine dX.cons (iR.val rfl rfl (λgq w' hb ho hd=>?_)) ?_
      ·have e47:gq 47=.pointer (some ⟨w.heap.size+1,5,none⟩):=hd ⟨0,.data⟩ (by simp) rfl (by decide)
       have x5':=(hb.cell (p:=⟨w.heap.size+1,5,none⟩) lx).trans x5;go_simp
      refine dX.cons (iR.val rfl rfl (λgq w' hb ho hd=>?_)) ?_
      ·have e0:=ho 0 rfl;go_simp
      refine dX.cons (iR.val rfl rfl (λgq w' hb ho hd=>?_)) ?_
      ·have e6:=ho 6 rfl;go_simp
      refine dX.cons (iR.val rfl rfl (λgq w' hb ho hd=>?_)) ?_
      ·have e49:gq 49=.string (pz l):=hd ⟨2,.data⟩ (by simp) rfl (by decide)
       have e50:gq 50=.int .i64 m:=hd ⟨3,.data⟩ (by simp) rfl (by decide)
       go_simp
      refine dX.cons (iR.val rfl rfl (λgq w' hb ho hd=>?_)) ?_
      ·have e51:gq 51=.int .u8 (dI l m):=hd ⟨4,.data⟩ (by simp) rfl (by decide)
       go_simp
      refine dX.cons (iR.val rfl rfl (λgq w' hb ho hd=>?_)) ?_
      ·have e0:=ho 0 rfl;go_simp
      refine dX.cons (iR.val rfl rfl (λgq w' hb ho hd=>?_)) ?_
      ·have e6:=ho 6 rfl;go_simp
      refine dX.cons (iR.val rfl rfl (λgq w' hb ho hd=>?_)) ?_
      ·have e54:gq 54=.int .i64 m:=hd ⟨7,.data⟩ (by simp) rfl (by decide)
       go_simp
      refine dX.cons (iR.val rfl rfl (λgq w' hb ho hd=>?_)) ?_
      ·have e53:gq 53=.string (pz l):=hd ⟨6,.data⟩ (by simp) rfl (by decide)
       have e55:gq 55=.int .i64 ((m:Int)+1):=hd ⟨8,.data⟩ (by simp) rfl (by decide)
       go_simp
      refine dX.cons (iR.val rfl rfl (λgq w' hb ho hd=>?_)) ?_
      ·have e56:gq 56=.int .u8 (dI l (m+1)):=hd ⟨9,.data⟩ (by simp) rfl (by decide)
       go_simp
      refine dX.cons (iR.val rfl rfl (λgq w' hb ho hd=>?_)) ?_
      ·have e0:=ho 0 rfl;go_simp
      refine dX.cons (iR.val rfl rfl (λgq w' hb ho hd=>?_)) ?_
      ·have e6:=ho 6 rfl;go_simp
      refine dX.cons (iR.val rfl rfl (λgq w' hb ho hd=>?_)) ?_
      ·have e59:gq 59=.int .i64 m:=hd ⟨12,.data⟩ (by simp) rfl (by decide)
       go_simp
      refine dX.cons (iR.val rfl rfl (λgq w' hb ho hd=>?_)) ?_
      ·have e58:gq 58=.string (pz l):=hd ⟨11,.data⟩ (by simp) rfl (by decide)
       have e60:gq 60=.int .i64 ((m:Int)+2):=hd ⟨13,.data⟩ (by simp) rfl (by decide)
       go_simp
      refine dX.cons (iR.val rfl rfl (λgq w' hb ho hd=>?_)) ?_
      ·have e61:gq 61=.int .u8 (dI l (m+2)):=hd ⟨14,.data⟩ (by simp) rfl (by decide)
       go_simp
      refine dX.cons (iR.val rfl rfl (λgq w' hb ho hd=>?_)) ?_
      ·have e0:=ho 0 rfl;go_simp
      refine dX.cons (iR.val rfl rfl (λgq w' hb ho hd=>?_)) ?_
      ·have e6:=ho 6 rfl;go_simp
      refine dX.cons (iR.val rfl rfl (λgq w' hb ho hd=>?_)) ?_
      ·have e64:gq 64=.int .i64 m:=hd ⟨17,.data⟩ (by simp) rfl (by decide)
       go_simp
      refine dX.cons (iR.val rfl rfl (λgq w' hb ho hd=>?_)) ?_
      ·have e63:gq 63=.string (pz l):=hd ⟨16,.data⟩ (by simp) rfl (by decide)
       have e65:gq 65=.int .i64 ((m:Int)+3):=hd ⟨18,.data⟩ (by simp) rfl (by decide)
       go_simp
      refine dX.cons (iR.val rfl rfl (λgq w' hb ho hd=>?_)) ?_
      ·have e66:gq 66=.int .u8 (dI l (m+3)):=hd ⟨19,.data⟩ (by simp) rfl (by decide)
       go_simp
      refine dX.cons (iR.val rfl rfl (λgq w' hb ho hd=>?_)) ?_
      ·have e52:gq 52=.int .i64 (dI l m):=hd ⟨5,.data⟩ (by simp) rfl (by decide)
       have e57:gq 57=.int .i64 (dI l (m+1)):=hd ⟨10,.data⟩ (by simp) rfl (by decide)
       have e62:gq 62=.int .i64 (dI l (m+2)):=hd ⟨15,.data⟩ (by simp) rfl (by decide)
       have e67:gq 67=.int .i64 (dI l (m+3)):=hd ⟨20,.data⟩ (by simp) rfl (by decide)
       go_simp
      refine dX.cons (iR.one (d:=69) (p:=(λv w'=>∃bb,v=.slice (some ⟨bb,0,none⟩) 1 1/\iV w' bb 44 [.int .i64 (dI l m),.int .i64 (dI l (m+1)),.int .i64 (dI l (m+2)),.int .i64 (dI l (m+3))])) rfl rfl (λv w1 w2 h hb=>let ⟨bb,h1,h2⟩:=h;⟨bb,h1,h2.below hb h2.lt⟩) (λgq w' hb ho hd=>?_)) ?_
      ·have e68:gq 68=.agg #[.int .i64 (dI l m),.int .i64 (dI l (m+1)),.int .i64 (dI l (m+2)),.int .i64 (dI l (m+3))]:=hd ⟨21,.data⟩ (by simp) rfl (by decide)
       unfold iT;go_simp
       exact⟨iV.new _ _ _,(aj _ _).alloc (au _) _⟩
      exact dX.nil;obtain⟨r47,r48,r49,r50,r51,r52,r53,r54,r55,r56,r57,r58,r59,r60,r61,r62,r63,r64,r65,r66,r67,r68,r69,_⟩:=hR;replace r69:∃bb,(f 69)=.slice (some ⟨bb,0,none⟩) 1 1/\iV W2 bb 44 [.int .i64 (dI l m),.int .i64 (dI l (m+1)),.int .i64 (dI l (m+2)),.int .i64 (dI l (m+3))]:=r69;simp only[kG,zB,bC,bV,eG,gW,eX,fF,fB,gV,bM,dF,dL,r47,r48,r49,r50,r51,r52,r53,r54,r55,r56,r57,r58,r59,r60,r61,r62,r63,r64,r65,r66,r67,r68];clear r47 r48 r49 r50 r51 r52 r53 r54 r55 r56 r57 r58 r59 r60 r61 r62 r63 r64 r65 r66 r67 r68;obtain⟨bb,r69,hbb⟩:=r69;simp only[r69];clear r69;have hO2:=ah (hO'.O.below hb2);have hz2:=ah (jf5.O.below hb2 jf5.O.lt);have ha2:=ah (V4.O.below hb2 lx);have hB2:=hBr.trans (hb2.mono hBr.size);have hs2:=hb2.size;have jrx:=ah hbb;clear hbb hO' jf5 V4 hb2 x5 lx;refine lS _ rfl (.tmp 48) (.tmp 69) 32 44 rfl w.heap.size _ 4 32 underlying32 NR rfl (by decide) (by decide) (.slice A1 n1 c1) (ql (l.drop 6) k) ⟨dI l m,dI l (m+1),dI l (m+2),dI l (m+3)⟩ rfl hO2.O ⟨bb,0,none⟩ 1 rfl rfl (λj u hj=>by rw[gU,eY];exact jrx.O.cell hj) (ZK _) (by omega) (by omega) ?_
      intro v9 w9 E8 je Np Hq;obtain⟨A9,c9,jbN⟩:=E8.isSlice;obtain⟨n9,hn9⟩:∃n9,(ql (l.drop 6) k++[(⟨dI l m,dI l (m+1),dI l (m+2),dI l (m+3)⟩:Line)]).length=n9:=⟨_,rfl⟩;rw[hn9]at jbN
      subst jbN;have key:∀ {g:Nat} {t:TypeId} {cur:List Value},iV W2 g t cur->44≠t->iV w9 g t cur:=λhk hne=>hk.grown je (by
       rcases Own.mQ hO2.O hk hne with hn|hn
       ·rw[hn];intro he;cases he
       ·exact λhe=>hn he.symm)
      have hz9:=key hz2.O (by decide)
      have ha9:=key ha2.O (by decide)
      obtain⟨jrC,Cb⟩:=xA ha9 5 (.slice A9 n9 c9);have jqB:=ah (hz9.grown Cb (by intro he;injection he with he;omega))
      have jmo:=ah (show iV (w9.setCell ⟨w.heap.size+1,5,none⟩ (.slice A9 n9 c9)) (w.heap.size+1) 34 [.int .i64 (dI l 0),.int .i64 (dI l 1),.int .i64 (dI l 2),.int .i64 (dI l 3),.int .i64 (dI l 4),.slice A9 n9 c9]from jrC)
      have SL:=ah (show Own kP 4 44 (w9.setCell ⟨w.heap.size+1,5,none⟩ (.slice A9 n9 c9)) w.heap.size (.slice A9 n9 c9) (ql (l.drop 6) (k+1))by
       rw[hln.O];exact E8.kept Cb (Own.mQ E8 ha9 (by decide)))
      have LD:=hB2.trans Hq;have jcd:=LD.grown Cb LD.size (λj hj=>by injection hj with hj;omega)
      have b5c:=ha9.cell (j:=5) rfl;have f5c:=ha9.frozen 5;have l5c:=ha9.lt;clear E8 je Hq hn9 hz9 ha9 jrC Cb hO2 hz2 ha2 hB2 jrx Np hln kD key LD;go_wp2_with fail;clear b5c f5c l5c;generalize w9.setCell ⟨w.heap.size+1,5,none⟩ (.slice A9 n9 c9)=w10 at jqB jmo SL jcd ⊢
      try go_wp2_with fail
      go_roundw
      case rel=>exact⟨k+1,_,by omega,by rw[show((6+4*(k+1):Nat):Int)=(m:Int)+4 by omega],jqB.O,jmo.O,SL.O,jcd⟩
      case measure=>simp[RowKit.intOf];omega
     ·obtain rfl:k=b5:=by omega
      have hmi:¬(m:Int)<6+4*(k:Int):=by omega
      have x0:=V4.O.cell (j:=0) rfl;have x1:=V4.O.cell (j:=1) rfl;have x2:=V4.O.cell (j:=2) rfl;have x3:=V4.O.cell (j:=3) rfl;have x4:=V4.O.cell (j:=4) rfl;have x5:=V4.O.cell (j:=5) rfl;have lx:=V4.O.lt;go_wp2_with (refine oI rfl 34 (.tmp 2) (.tmp 72) rfl w.heap.size #[.int .i64 (dI l 0),.int .i64 (dI l 1),.int .i64 (dI l 2),.int .i64 (dI l 3),.int .i64 (dI l 4),.slice A1 n1 c1] rfl rfl 34 _ jf5.O (by kernel_rfl) rfl (by simp[Value.oneCell']) ?_;refine aW ?_)
      unfold Hid;have uO:iV (wr.setRow w.heap.size #[.int .i64 (dI l 0),.int .i64 (dI l 1),.int .i64 (dI l 2),.int .i64 (dI l 3),.int .i64 (dI l 4),.slice A1 n1 c1]) w.heap.size 34 [.int .i64 (dI l 0),.int .i64 (dI l 1),.int .i64 (dI l 2),.int .i64 (dI l 3),.int .i64 (dI l 4),.slice A1 n1 c1]:=iV.row jf5.O [.int .i64 (dI l 0),.int .i64 (dI l 1),.int .i64 (dI l 2),.int .i64 (dI l 3),.int .i64 (dI l 4),.slice A1 n1 c1];have LD:=DL hBr (au w.heap.size) #[.int .i64 (dI l 0),.int .i64 (dI l 1),.int .i64 (dI l 2),.int .i64 (dI l 3),.int .i64 (dI l 4),.slice A1 n1 c1];have wC:=hO'.O.kept (yU wr w.heap.size #[.int .i64 (dI l 0),.int .i64 (dI l 1),.int .i64 (dI l 2),.int .i64 (dI l 3),.int .i64 (dI l 4),.slice A1 n1 c1]) (Own.mQ hO'.O jf5.O (by decide))
      generalize wr.setRow w.heap.size #[.int .i64 (dI l 0),.int .i64 (dI l 1),.int .i64 (dI l 2),.int .i64 (dI l 3),.int .i64 (dI l 4),.slice A1 n1 c1]=w9 at uO LD wC ⊢
      clear x0 x1 x2 x3 x4 x5;have a0:=uO.cell (j:=0) rfl;have a1:=uO.cell (j:=1) rfl;have a2:=uO.cell (j:=2) rfl;have a3:=uO.cell (j:=3) rfl;have a4:=uO.cell (j:=4) rfl;have a5:=uO.cell (j:=5) rfl;have X5:=ah wC;clear wC;go_wp2_with fail;exact fD (v:=.tuple #[.agg #[.int .i64 (dI l 0),.int .i64 (dI l 1),.int .i64 (dI l 2),.int .i64 (dI l 3),.int .i64 (dI l 4),.slice A1 n1 c1],.int .i64 (6+4*(k:Int))]) (by simp[results,results86,go_sem,a0,a1,a2,a3,a4,a5]) rfl ⟨LD,.inr ⟨by rw[hal.O];omega,.slice A1 n1 c1,by
       rw[hal.O];have e:((6+4*k:Nat):Int)=6+4*(k:Int):=by omega
       rw[e];rfl,by
       show Own kP 4 44 w9 w.heap.size (.slice A1 n1 c1) (ql (l.drop 6) (dI l 5));rw[jt0.O];exact X5.O⟩⟩
end Wh
namespace Wh
open Go Go.RowKit Go.Shelf Go.Proofs Tryz
attribute [local go_sem] aT jW jm kC
theorem jfO(w:World)(t:List Nat)(hb:∀n∈t,n<256):Calls prog 31 #[.string (pz t)] w λe w'=>
  ∃v,e=.returned (.tuple #[v,.int .i64 (qj t).2.1,.int .i64 (qj t).2.2])/\zD w' w.heap.size v (qj t).1/\Below w.heap.size w w':=by
 have hb':=ah hb;have hsz:=Gy t;clear hb;go_enter func31,ntmps31
 by_cases hlong:4096<t.length
 ·have hli:(4096:Int)<(t.length:Int):=by omega
  have bK:=ah (show qj t=([],0,2)by unfold qj;rw[aB hlong])
  clear hlong;go_wp2_with fail;exact fD (v:=.tuple #[.slice none 0 0,.int .i64 0,.int .i64 2]) (by simp[results,results31,go_sem]) rfl ⟨_,by rw[bK.O],by rw[bK.O];exact zD.nil,aj _ _⟩
 ·have hli:¬(4096:Int)<(t.length:Int):=by omega
  have bK:=ah (show qj t=((rE 60 t).1,((rE 60 t).2:Int),0)by unfold qj;rw[ay hlong])
  go_wp2_with fail;go_loopg[5,6] 60 (λgk lv sv wr=>∃(done:List yK) (at_:Nat),gk=60 - done.length/\done.length<=60/\sv=.int .i64 at_/\zD wr w.heap.size lv done/\at_<=t.length/\
   rE 60 t=(done++(rE (60 - done.length) (t.drop at_)).1,at_+(rE (60 - done.length) (t.drop at_)).2)/\Below w.heap.size w wr)
  case atStart=>exact⟨[],0,rfl,by simp,rfl,zD.nil,aK _,by simp,aj _ _⟩
  case round=>
   obtain⟨done,at_,hgk,hd,rfl,hA,hrl,heq,hB⟩:=hrel;obtain⟨rem,hrm⟩:∃rem,t.drop at_=rem:=⟨_,rfl⟩;rw[hrm]at heq
   have hrb:∀n∈rem,n<256:=λn hn=>hb'.O n (by rw[<- hrm]at hn;exact tu hn)
   have hex:(pz t).extract at_ t.length=pz rem:=by
    rw[<- hrm];unfold pz;rw[BR,List.map_drop,kN (by simp)]
   have hrml:rem.length=t.length - at_:=by rw[<- hrm,fQ]
   have hrli:(at_:Int)<=(t.length:Int):=by omega
   obtain⟨Al,cl,rfl⟩:=hA.isSlice;have heq':=ah heq;have hA':=ah hA;have jkO:=ah hrb;have jac:=ah hgk;have jti:=ah hrm;have htl:t.length<=4096:=by omega
   clear heq hA hrb hgk hrm;by_cases h60:done.length<60
   ·have h6i:(done.length:Int)<60:=by omega
    go_wp2_with fail;refine(jhr wr rem jkO.O).mono ?_
    rintro e W1 ⟨h1,⟨hz,rfl⟩|⟨hnz,vl,rfl,hO⟩⟩
    ·have hA1:=ah (hA'.O.below h1);have hB1:=hB.trans (h1.mono hB.size);have hz':=ah hz;have hA2:=ah (hA1.O.below ((aj W1.heap.size W1).alloc (au _) (.cells #[.int .i64 0,.int .i64 0,.int .i64 0,.int .i64 0,.int .i64 0,.slice none 0 0] 34)));have hB2:=hB1.alloc hB1.size (.cells #[.int .i64 0,.int .i64 0,.int .i64 0,.int .i64 0,.int .i64 0,.slice none 0 0] 34);clear hA' hz h1;have hq:rE 60 t=(done,at_):=by
      rw[heq'.O,GZ (.inr hz'.O)];simp
     have hf1:=ah (show qj t=(done,(at_:Int),0)by
      rw[bK.O,hq])
     clear hq;go_wp2_with fail;exact fD (v:=.tuple #[.slice Al done.length cl,.int .i64 (at_:Int),.int .i64 0]) (by simp[results,results31,go_sem]) rfl ⟨_,by rw[hf1.O],by rw[hf1.O];exact hA2.O,hB2⟩
    ·obtain⟨A2,c2,hvl⟩:=hO.isSlice;obtain⟨n2,hn2⟩:∃n2,(yI rem).aH.length=n2:=⟨_,rfl⟩;rw[hn2]at hvl
     subst hvl;obtain⟨x,hx⟩:∃x,yI rem=x:=⟨_,rfl⟩;obtain⟨Ut,PY⟩:∃Ut,rem.drop (oz rem)=Ut:=⟨_,rfl⟩;have hle:=Tz rem;obtain⟨al,jn5⟩:∃al,oz rem=al:=⟨_,rfl⟩;have hnz0:((al:Int)==0)=false:=by simp;omega
     have hl2:at_+al<=t.length:=by omega
     have hl2i:IntKind.i64.wrap ((at_:Int)+(al:Int))=(at_:Int)+(al:Int):=aN _ (by omega)
     have jqS:t.drop (at_+al)=Ut:=by rw[<- rW,jti.O,<- jn5];exact PY
     have heq2:=ah (show rE 60 t=((done++[x])++(rE (60 - (done++[x]).length) (t.drop (at_+al))).1,(at_+al)+(rE (60 - (done++[x]).length) (t.drop (at_+al))).2)by
      have e1:60 - done.length=(60 - (done++[x]).length)+1:=by rw[aZ];simp only[dw,dY];omega
      rw[heq'.O,e1,NG hnz,hx,PY,jn5,eH,Bg,jqS,Ci])
     rw[hx,jn5];rw[hx]at hO
     have hA1:=ah (hA'.O.below h1);have hB1:=hB.trans (h1.mono hB.size);have hO1:=ah (hO.from_ hB.size);clear hx PY hn2 hO h1 hA' hnz hle jqS;obtain⟨ps,hps,lC,hlin⟩:=hA1.O;have hown':=ah lC;have jbX:=ah hlin;have jii:=ah hps;have hpl:ps.length<=1000000:=by have:=kX List.length hps;rw[fU]at this;omega
     have hbs:=hB1.size;have hpe:ps.length=done.length:=by rw[<- hps,fU]
     clear lC hlin hps hpe;go_wp2_with (refine lS _ rfl (.tmp 24) (.tmp 26) 63 34 rfl w.heap.size _ 6 64 underlying63 jfd rfl (by decide) (by decide) (.slice Al done.length cl) ps (x,.slice A2 n2 c2) rfl ((hown'.O.alloc _).alloc _) ⟨W1.heap.size+1,0,none⟩ 1 rfl rfl (Xj _ _ _) (by simp[jjI,Value.oneCell']) hpl (by rw[cO,cO];omega) (λv9 w9 E8 je Np Hq=>?_);refine aW ?_)
     unfold Hid;have hb2:Below W1.heap.size W1 ((W1.alloc (.cells #[.int .i64 x.dW,.int .i64 x.a,.int .i64 x.b,.int .i64 x.c,.int .i64 x.n,.slice A2 n2 c2] 34)).alloc (.cells #[.int .i64 x.dW,.int .i64 x.a,.int .i64 x.b,.int .i64 x.c,.int .i64 x.n,.slice A2 n2 c2] 34)):=((aj _ _).alloc (au _) _).alloc (by simp) _
     have hA9:=ah (show zD w9 w.heap.size v9 (done++[x])from⟨ps++[(x,.slice A2 n2 c2)],by rw[fJ,jii.O];rfl,E8,λy hy=>by
      have hy1:Own kP 4 44 W1 w.heap.size y.2 y.1.aH:=by
       rcases jT.1 hy with h|h
       ·exact jbX.O y h
       ·rw[iP]at h
        subst h;exact hO1.O
      exact(hy1.below hb2).kept je (Own.apart (hy1.below hb2) (hown'.O.below hb2) (by decide))⟩)
     have LD:=hB1.trans (hb2.mono hB1.size)|>.trans Hq
     clear E8 je Np Hq hb2 hown' jbX jii hA1 hO1 hB1;go_wp2_with fail;go_roundg (60 - (done++[x]).length)
     case rel=>exact⟨done++[x],at_+al,rfl,by rw[aZ];simp only[dw,dY];omega,by rw[show((at_+al:Nat):Int)=(at_:Int)+(al:Int)by omega],hA9.O,hl2,heq2.O,LD⟩
     case measure=>rw[jac.O,aZ];simp only[dw,dY];omega
   ·have h6i:¬(done.length:Int)<60:=by omega
    have joj:60 - done.length=0:=by omega
    have hq:rE 60 t=(done,at_):=by
     rw[heq'.O,GZ (.inl joj)];simp
    have hf1:=ah (show qj t=(done,(at_:Int),0)by
     rw[bK.O,hq])
    clear hq;go_wp2_with fail;exact fD (v:=.tuple #[.slice Al done.length cl,.int .i64 (at_:Int),.int .i64 0]) (by simp[results,results31,go_sem]) rfl ⟨_,by rw[hf1.O],by rw[hf1.O];exact hA'.O,hB⟩
end Wh
namespace Wh
open Go Go.RowKit Go.Shelf Go.Proofs Tryz
attribute [local go_sem] aT jW jm kC
def jcR(w:World)(B:Nat)(A:Option Addr)(l:List yK):Prop:=∀k,(hk:k<l.length)->∃A2 c2,okA A/\jd A<B/\w.cell? ⟨jd A,ou A+k*6,none⟩=some (.int .i64 l[k].dW)/\w.cell? ⟨jd A,ou A+k*6+1,none⟩=some (.int .i64 l[k].a)/\w.cell? ⟨jd A,ou A+k*6+2,none⟩=some (.int .i64 l[k].b)/\
 w.cell? ⟨jd A,ou A+k*6+3,none⟩=some (.int .i64 l[k].c)/\w.cell? ⟨jd A,ou A+k*6+4,none⟩=some (.int .i64 l[k].n)/\w.cell? ⟨jd A,ou A+k*6+5,none⟩=some (.slice A2 l[k].aH.length c2)/\Sl kP w B (.slice A2 l[k].aH.length c2) l[k].aH
theorem jcR.up{w w':World}{B B':Nat}{A:Option Addr}{l:List yK}(h:jcR w B A l)(hb:Below B w w')(hB:B<=B'):jcR w' B' A l:=λk hk=>by
 obtain⟨A2,c2,h1,h2,f0,f1,f2,f3,f4,f5,hs⟩:=h k hk;exact⟨A2,c2,h1,aI h2 hB,(hb.cell (p:=⟨jd A,_,none⟩) h2).trans f0,(hb.cell (p:=⟨jd A,_,none⟩) h2).trans f1,(hb.cell (p:=⟨jd A,_,none⟩) h2).trans f2,(hb.cell (p:=⟨jd A,_,none⟩) h2).trans f3,(hb.cell (p:=⟨jd A,_,none⟩) h2).trans f4,(hb.cell (p:=⟨jd A,_,none⟩) h2).trans f5,hs.up hb hB⟩
theorem zD.acts{w:World}{aO:Nat}{A:Option Addr}{n c:Nat}{l:List yK}(h:zD w aO (.slice A n c) l)(h3:∀x∈l,x.aH.length<=3):jcR w w.heap.size A l:=λk hk=>by
 obtain⟨g,A2,c2,rfl,hg,f0,f1,f2,f3,f4,f5,ho⟩:=h.at hk
 have e:ou (some ⟨g,0,none⟩)=0:=rfl;rw[e];simp only[eY];exact⟨A2,c2,VG _ _,hg,f0,f1,f2,f3,f4,f5,ho.sl (by have:=h3 _ (bU hk);omega)⟩
structure Made(w:World)(aO:Nat)(V:SV)(p:dA)(s:aJ):Prop where
 view:lK w w.heap.size V.val s
 cap:Si V.val
 one:V.cells.all (λu=>u.oneCell')=true
def Lu(aO:Nat)(V:SV)(p:dA)(s:aJ)(w:World):Prop:=(dK w aO V s/\small s=true)\/(RB w aO V (List.replicate p.aP.length 0) p.bQ.length/\s=begin p/\gQ p=0)
theorem Lu.below{w w':World}{aO:Nat}{V:SV}{p:dA}{s:aJ}(h:Lu aO V p s w)(hb:Below w.heap.size w w'):Lu aO V p s w':=by
 rcases h with⟨h,h2⟩|⟨h,h2⟩
 ·exact .inl ⟨h.below hb,h2⟩
 ·exact .inr ⟨h.below hb,h2⟩
theorem Lu.kept{w w':World}{aO b:Nat}{V V':SV}{p:dA}{s:aJ}(h:Lu aO V p s w)(hg:w.grownBy w' (some b))(hb:jk w b V'):Lu aO V p s w':=by
 rcases h with⟨h,h2⟩|⟨h,h2⟩
 ·exact .inl ⟨h.keptBy hg hb.blk (by decide) (by decide) (by decide) (by decide) (by decide) (by decide),h2⟩
 ·exact .inr ⟨h.keptBy hg hb.blk (by decide) (by decide),h2⟩
theorem dK.jhJ{w:World}{aO:Nat}{V:SV}{s:aJ}(h:dK w aO V s):Si V.val:=by
 obtain⟨A,c,e⟩:=h.aF.isSlice;have hm:=h.aF;rw[e]at hm
 refine⟨V.on,V.ak,V.aA,A,s.aF.length,c,V.gY,V.O,V.bg,?_,Own.cap hm⟩
 rw[<- e];rfl
theorem Lu.made{w:World}{aO:Nat}{V:SV}{p:dA}{s:aJ}(h:Lu aO V p s w):Made w aO V p s:=by
 rcases h with⟨h,h2⟩|⟨h,rfl,hz⟩
 ·exact⟨h.view0 h2,h.jhJ,h.one⟩
 ·obtain⟨_,hc6,_,hc3⟩:=pJ hz;refine⟨h.view (by omega) (by omega),⟨V.on,V.ak,V.aA,none,0,0,V.gY,V.O,V.bg,?_,au _⟩,h.one⟩
  have e:=h.VH;show Value.agg #[V.on,V.ak,V.aA,V.aF,V.gY,V.O,V.bg]=_;rw[e];rfl
def jaG(B:Nat)(_:Nat)(w1 w2:World):Prop:=Below B w1 w2/\∀aO V s,dK w1 aO V s->dK w2 aO V s
theorem ZU{w1 w2:World}{B k:Nat}(h:Below w1.heap.size w1 w2)(hB:B<=w1.heap.size):jaG B k w1 w2:=⟨h.mono hB,λ_ _ _ h'=>h'.below h⟩
theorem jdK{w1 w2:World}{B b k:Nat}{V:SV}(hb:jk w1 b V)(hB:B<=b)(hg:w1.grownBy w2 (some b)):jaG B k w1 w2:=
 ⟨(aj B w1).grown hg (aY hB (jh hb.lt)) (λk hk=>by injection hk with hk;omega),λ_ _ _ h=>h.keptBy hg hb.blk (by decide) (by decide) (by decide) (by decide) (by decide) (by decide)⟩
def Q9(mk:SV->Value)(B:Nat)(s:aJ)(_:Nat)(v:Value)(w:World):Prop:=∃V:SV,v=mk V/\dK w B V s
theorem Qn{mk:SV->Value}{B ph:Nat}{s:aJ}{v:Value}{w1 w2:World}(h:Q9 mk B s ph v w1)(hb:Below w1.heap.size w1 w2):Q9 mk B s ph v w2:=by
 obtain⟨V,h1,h2⟩:=h;exact⟨V,h1,h2.below hb⟩
theorem SC{mk:SV->Value}{B B' k:Nat}{s:aJ}{v:Value}{w1 w2:World}(h:Q9 mk B s k v w1)(hb:jaG B' k w1 w2):Q9 mk B s (k+1) v w2:=by
 obtain⟨V,h1,h2⟩:=h;exact⟨V,h1,hb.2 _ _ _ h2⟩
def jeF(B:Nat)(ph:Nat)(v:Value)(w:World):Prop:=∃b,v=.pointer (some ⟨b,0,none⟩)/\B<=b/\(ph<=1->jk w b dH)
theorem jeE{B ph:Nat}{v:Value}{w1 w2:World}(h:jeF B ph v w1)(hb:Below w1.heap.size w1 w2):jeF B ph v w2:=by
 obtain⟨b,h1,h2,h3⟩:=h;exact⟨b,h1,h2,λhp=>(h3 hp).below hb (h3 hp).lt⟩
theorem jjN{B:Nat}{v:Value}{w1 w2:World}(h:jeF B 1 v w1):jeF B 2 v w2:=by
 obtain⟨b,h1,h2,_⟩:=h;exact⟨b,h1,h2,λhp=>absurd hp (by omega)⟩
def QX(d B:Nat)(s:aJ)(g:Nat->Value)(w:World):Prop:=∃b V,g d=.pointer (some ⟨b,0,none⟩)/\B<=b/\jk w b V/\dK w B V s
theorem XG{d B:Nat}{s:aJ}{g:Nat->Value}{w1 w2:World}(h:QX d B s g w1)(hb:Below w1.heap.size w1 w2):QX d B s g w2:=by
 obtain⟨b,V,h1,h2,h3,h4⟩:=h;exact⟨b,V,h1,h2,h3.below hb h3.lt,h4.below hb⟩
theorem jko(w:World)(v:Value)(p:dA)(l:List yK)(A:Option Addr)(c:Nat)(hp:mW w w.heap.size v p)(hz:gQ p=0)(hA:jcR w w.heap.size A l)(hl:l.length<=60):
  Calls prog 35 #[v,.slice A l.length c] w λe w'=>∃V:SV,e=.returned V.val/\Lu w.heap.size V p (wL p l (begin p)) w'/\Below w.heap.size w w':=by
 obtain⟨Ab,cb,As,cs,rfl,hP',hBn,hSz,hlb,hls⟩:=sN hp;have hA':=ah hA;have hz':=ah hz;clear hA hp hz;go_enter func35,ntmps35
 go_wp2_with fail;obtain⟨W0,hW0,hb0,hpl,hbx,lg⟩:=jcJ w p Ab cb As cs;rw[hW0];clear hW0;have y0:=hpl.cell (j:=0) rfl;have y1:=hpl.cell (j:=1) rfl;have lpl:=hpl.lt;go_wp2_with fail;clear y0 y1;refine(jhq _ _ p (hP'.O _ hb0) hz'.O).mono ?_
 rintro e W1 ⟨V1,rfl,hR1,h1⟩;have jl7:=hR1.one;have jq0:=vG W1;go_wp2_with (refine dB (.tmp 5) (.tmp 10) dH V1 rfl jq0 rfl jl7 (λw2 PZ hg2=>?_);refine aW ?_)
 unfold Hid;have S9:=qX hg2;have h02:=h1.trans (S9.mono h1.size);have hB2:=hb0.trans (h02.mono hb0.size);have hpl2:=ah (hpl.below h02 lpl);have Ji:=ah (hbx.below h02 hbx.lt);have hU2:=ah (show Lu w.heap.size V1 p (begin p) w2 from .inr ⟨(hR1.below S9).from_ hb0.size,rfl,hz'.O⟩)
 have Kz:=ah PZ;have hlx:w.heap.size+1<W1.heap.size:=by have:=h1.size;omega
 clear hpl hbx hb0 h1 hR1 jl7 jq0 hg2 S9 PZ h02;generalize W1.heap.size=bx at Kz hlx ⊢
 go_wp2_with fail;go_loopw[6] (λi wr=>∃(k:Nat) (V:SV),k<=l.length/\i=.int .i64 k/\jk wr bx V/\Lu w.heap.size V p (wL p (l.take k) (begin p)) wr/\iV wr w.heap.size 25 [.slice Ab p.bQ.length cb,.slice As p.aP.length cs]/\jk wr (w.heap.size+1) dH/\Below w.heap.size w wr) (λi _=>l.length - (RowKit.intOf i).toNat)
 case atStart=>exact⟨0,V1,aK _,rfl,Kz.O,hU2.O,hpl2.O,Ji.O,hB2⟩
 case round=>
  clear Kz hU2 hpl2 Ji hB2;obtain⟨k,V,hk,rfl,E5,hU,hpl,hbx,hBr⟩:=hrel;have P5:=ah E5;have hU':=ah hU;have hpl':=ah hpl;have AZ:=ah hbx;clear E5 hU hpl hbx;have lbx:=P5.O.lt;have lpl:=hpl'.O.lt;by_cases hlt:k<l.length
  ·have hki:(k:Int)<(l.length:Int):=by omega
   obtain⟨A2,c2,ok1,lA,f0,f1,f2,f3,f4,f5,hsl⟩:=(hA'.O.up hBr hBr.size) k hlt;have hdn:=Ue (p:=p) (s:=begin p) hlt;obtain⟨sk,hsk⟩:∃sk,wL p (l.take k) (begin p)=sk:=⟨_,rfl⟩;rw[hsk]at hdn hU'
   obtain⟨x,hx⟩:∃x,l[k]=x:=⟨_,rfl⟩;rw[hx]at f0 f1 f2 f3 f4 f5 hsl hdn
   obtain⟨s1,c1,hact⟩:∃s1 c1,act p sk x=(s1,c1):=⟨_,_,rfl⟩;rw[hact]at hdn
   have hs1:=ah (show small s1=true by have:=QN p sk x;rwa [hact]at this)
   have jad:=ah hdn;have YV:=ah hact;have jkL:=ah hsl;clear hx hdn hact hsl hsk;go_wp2_with fail;refine U5 13 (λwq=>Below wr.heap.size wr wq) (jaG wr.heap.size) 10 11 (by decide) (by decide) (by decide) (λo ho=>by injection ho with ho;subst ho;exact⟨⟨10,.data⟩,by simp,rfl,rfl⟩)
    [λ_ gq _=>gq 18=.agg #[.slice Ab p.bQ.length cb,.slice As p.aP.length cs],λ_ gq _=>gq 19=.agg #[V.on,V.ak,V.aA,V.aF,V.gY,V.O,V.bg],λ_ gq _=>gq 20=.slice A l.length c,λ_ gq _=>gq 21=.int .i64 k,λ_ gq _=>gq 22=.pointer (some ⟨jd A,ou A+k*6,none⟩),λ_ gq _=>gq 23=.agg #[.int .i64 x.dW,.int .i64 x.a,.int .i64 x.b,.int .i64 x.c,.int .i64 x.n,.slice A2 x.aH.length c2],λph gq w'=>Q9 (λV=>.tuple #[V.val,.int .i64 c1]) wr.heap.size s1 ph (gq 24) w',λph gq w'=>Q9 (λV=>.tuple #[V.val,.int .i64 c1]) wr.heap.size s1 ph (gq 17) w',λph gq w'=>Q9 SV.val wr.heap.size s1 ph (gq 25) w',λ_ gq _=>gq 26=.int .i64 c1,λph gq w'=>jeF wr.heap.size ph (gq 7) w',λph gq w'=>ph=2/\QX 7 wr.heap.size s1 gq w',λ_ gq _=>gq 8=.int .i64 c1] (by kernel_rfl) (by kernel_rfl) rfl (by kernel_rfl)
    (λw1 w2 h h'=>h.trans (h'.mono h.size)) (λk w1 w2 h h'=>h.trans h'.1) (aj _ _).drew ?_ (λf w5 h45 hR=>?_)
   ·simp only[bC,bV];refine BZ.cons (H9.val rfl rfl (by decide) (by decide) (λph gq w' hb ho hd=>?_)) ?_
    ·have e2:=ho 2 rfl;have y0:=(hpl'.O.below hb lpl).cell (j:=0) rfl;have y1:=(hpl'.O.below hb lpl).cell (j:=1) rfl;go_simp
    refine BZ.cons (H9.val rfl rfl (by decide) (by decide) (λph gq w' hb ho hd=>?_)) ?_
    ·have e5:=ho 5 rfl;obtain⟨x0,x1,x2,x3,x4,x5,x6⟩:=(P5.O.below hb lbx).cells;go_simp
    refine BZ.cons (H9.val rfl rfl (by decide) (by decide) (λph gq w' hb ho hd=>?_)) ?_
    ·have e1:=ho 1 rfl;go_simp
    refine BZ.cons (H9.val rfl rfl (by decide) (by decide) (λph gq w' hb ho hd=>?_)) ?_
    ·have e6:=ho 6 rfl;go_simp
    refine BZ.cons (H9.val rfl rfl (by decide) (by decide) (λph gq w' hb ho hd=>?_)) ?_
    ·have e20:gq 20=.slice A l.length c:=hd ⟨2,.data⟩ (by simp) rfl (by decide)
     have e21:gq 21=.int .i64 k:=hd ⟨3,.data⟩ (by simp) rfl (by decide)
     go_simp
    refine BZ.cons (H9.val rfl rfl (by decide) (by decide) (λph gq w' hb ho hd=>?_)) ?_
    ·have e22:gq 22=.pointer (some ⟨jd A,ou A+k*6,none⟩):=hd ⟨4,.data⟩ (by simp) rfl (by decide)
     have u0:=(hb.cell (p:=⟨jd A,ou A+k*6,none⟩) lA).trans f0;have u1:=(hb.cell (p:=⟨jd A,ou A+k*6+1,none⟩) lA).trans f1;have u2:=(hb.cell (p:=⟨jd A,ou A+k*6+2,none⟩) lA).trans f2;have u3:=(hb.cell (p:=⟨jd A,ou A+k*6+3,none⟩) lA).trans f3;have u4:=(hb.cell (p:=⟨jd A,ou A+k*6+4,none⟩) lA).trans f4;have u5:=(hb.cell (p:=⟨jd A,ou A+k*6+5,none⟩) lA).trans f5;go_simp
    refine BZ.cons (H9.one (d:=24) (p:=Q9 (λV=>.tuple #[V.val,.int .i64 c1]) wr.heap.size s1) rfl rfl (by decide) (by decide) (λ_ _ _ _ h hb=>Qn h hb) (λ_ _ _ _ _ h hb=>SC h hb) (λph gq w' hb ho hd=>?_)) ?_
    ·have e18:gq 18=.agg #[.slice Ab p.bQ.length cb,.slice As p.aP.length cs]:=hd ⟨0,.data⟩ (by simp) rfl (by decide)
     have e19:gq 19=.agg #[V.on,V.ak,V.aA,V.aF,V.gY,V.O,V.bg]:=hd ⟨1,.data⟩ (by simp) rfl (by decide)
     have e23:gq 23=.agg #[.int .i64 x.dW,.int .i64 x.a,.int .i64 x.b,.int .i64 x.c,.int .i64 x.n,.slice A2 x.aH.length c2]:=hd ⟨5,.data⟩ (by simp) rfl (by decide)
     unfold iT;go_simp
     have hmd:=(hU'.O.below hb).made;refine(jlM w' _ _ _ p sk x (hP'.O _ (hBr.trans (hb.mono hBr.size))) hmd.view ⟨_,rfl,jkL.O.up hb hb.size⟩ hmd.cap).mono ?_
     rintro e w2 ⟨V2,rfl,ho2,hb2⟩;rw[YV.O]at ho2 ⊢
     exact⟨_,rfl,⟨V2,rfl,ho2.from_ hb.size⟩,hb2⟩
    refine BZ.cons (H9.one (d:=17) (p:=Q9 (λV=>.tuple #[V.val,.int .i64 c1]) wr.heap.size s1) rfl rfl (by decide) (by decide) (λ_ _ _ _ h hb=>Qn h hb) (λ_ _ _ _ _ h hb=>SC h hb) (λph gq w' hb ho hd=>?_)) ?_
    ·have eq:Q9 (λV=>.tuple #[V.val,.int .i64 c1]) wr.heap.size s1 ph (gq 24) w':=hd ⟨6,.data⟩ (by simp) rfl (by decide)
     obtain⟨V3,eq,ho3⟩:=eq;have jnr:=ah ho3;clear ho3;unfold iT;go_simp
     exact⟨⟨V3,rfl,jnr.O⟩,aj _ _⟩
    refine BZ.cons (H9.one (d:=25) (p:=Q9 SV.val wr.heap.size s1) rfl rfl (by decide) (by decide) (λ_ _ _ _ h hb=>Qn h hb) (λ_ _ _ _ _ h hb=>SC h hb) (λph gq w' hb ho hd=>?_)) ?_
    ·have eq:Q9 (λV=>.tuple #[V.val,.int .i64 c1]) wr.heap.size s1 ph (gq 17) w':=hd ⟨7,.data⟩ (by simp) rfl (by decide)
     obtain⟨V3,eq,ho3⟩:=eq;have jnr:=ah ho3;clear ho3;unfold iT;go_simp
     exact⟨⟨V3,rfl,jnr.O⟩,aj _ _⟩
    refine BZ.cons (H9.val rfl rfl (by decide) (by decide) (λph gq w' hb ho hd=>?_)) ?_
    ·have eq:Q9 (λV=>.tuple #[V.val,.int .i64 c1]) wr.heap.size s1 ph (gq 17) w':=hd ⟨7,.data⟩ (by simp) rfl (by decide)
     obtain⟨V3,eq,ho3⟩:=eq;clear ho3;go_simp
    refine BZ.cons (H9.first (d:=7) (p:=jeF wr.heap.size) rfl rfl (λ_ _ _ _ h hb=>jeE h hb) (λ_ _ _ h _=>jjN h) (λgq w' hb ho hd=>?_)) ?_
    ·unfold iT;go_simp
     have hal:Below w'.heap.size w' (w'.alloc (.cells #[.slice none 0 0,.slice none 0 0,.slice none 0 0,.slice none 0 0,.slice none 0 0,.slice none 0 0,.slice none 0 0] 31)):=(aj _ _).alloc (au _) _;exact⟨⟨_,rfl,hb.size,λ_=>vG _⟩,ZU hal hb.size⟩
    refine BZ.cons (H9.second (p:=QX 7 wr.heap.size s1) (by decide) rfl (λ_ _ _ h hb=>XG h hb) (λgq gq' w1 he h=>by
      have e1:=he 10 _ 7 (JD.dP (e:=⟨10,.data⟩) rfl (by simp) rfl rfl (JD.self _)) rfl rfl
      unfold QX;rw[<- e1];exact h) (λgq w' hb ho hd=>?_)) ?_
    ·have eb:jeF wr.heap.size 1 (gq 7) w':=hd ⟨10,.data⟩ (by simp) rfl (by decide)
     have ev:Q9 SV.val wr.heap.size s1 1 (gq 25) w':=hd ⟨8,.data⟩ (by simp) rfl (by decide)
     obtain⟨b,eb,hbl,hbo⟩:=eb;obtain⟨V3,ev,ho3⟩:=ev;have hbo:=hbo (au _);refine Rh (.tmp 7) (.tmp 25) rfl b dH V3 hbo eb ev ho3.one (λw8 KW hg8=>?_)
     exact⟨⟨b,V3,eb,hbl,KW,ho3.keptBy hg8 hbo.blk (by decide) (by decide) (by decide) (by decide) (by decide) (by decide)⟩,jdK hbo hbl hg8⟩
    refine BZ.cons (H9.val rfl rfl (by decide) (by decide) (λph gq w' hb ho hd=>?_)) ?_
    ·have e26:gq 26=.int .i64 c1:=hd ⟨9,.data⟩ (by simp) rfl (by decide)
     go_simp
    exact BZ.nil
   obtain⟨r18,r19,r20,r21,r22,r23,⟨Va,r24,_⟩,⟨Vb,r17,_⟩,⟨Vc,r25,_⟩,r26,_,⟨_,bb,V2,r7,hlb,Jl,jns⟩,r8,_⟩:=hR;simp only[kG,zB,bC,bV,eG,gW,eX,fF,fB,gV,bM,dF,dL,r18,r19,r20,r21,r22,r23,r24,r17,r25,r26,r7,r8];clear r18 r19 r20 r21 r22 r23 r24 r17 r25 r26 r7 r8;refine fC ?_
   have TS:=jns.one;have Xv:=ah (jns.from_ hBr.size);have hb5:=ah (P5.O.below h45 lbx);have hU5:=ah (hU'.O.below h45);have jnl:=ah (hpl'.O.below h45 lpl);have jk5:=ah (AZ.O.below h45 AZ.O.lt);have P6:=hBr.trans (h45.mono hBr.size);have QC:=ah Jl;have hnb:bx<bb:=by omega
   clear P5 hU' hpl' AZ h45 Jl jns jkL YV f0 f1 f2 f3 f4 f5;by_cases hc1:c1=0
   ·subst hc1;obtain⟨q0,q1,q2,q3,q4,q5,q6⟩:=QC.O.cells;go_wp2_with (refine dB (.tmp 5) (.tmp 29) V V2 rfl hb5.O rfl TS (λw7 DR LC=>?_);refine aW ?_)
    unfold Hid;have hU7:=ah (show Lu w.heap.size V2 p (wL p (l.take (k+1)) (begin p)) w7 by
     rw[jad.O,aB trivial];exact .inl ⟨Xv.O.keptBy LC hb5.O.blk (by decide) (by decide) (by decide) (by decide) (by decide) (by decide),hs1.O⟩)
    have jnj:=ah (jnl.O.grown LC (by intro he;injection he with he;omega))
    have jnT:=ah (jk5.O.grown LC (by intro he;injection he with he;omega))
    have YW:=P6.grown LC P6.size (λj hj=>by injection hj with hj;omega)
    have SY:=ah DR;clear q0 q1 q2 q3 q4 q5 q6 DR LC hb5 hU5 jnl jk5 P6 Xv QC jad TS;go_wp2_with fail;go_roundw
    case rel=>exact⟨k+1,V2,by omega,by go_num,SY.O,hU7.O,jnj.O,jnT.O,YW⟩
    case measure=>simp[RowKit.intOf];omega
   ·have hc1':(c1==0)=false:=by simpa using hc1
    have hU7:=ah (show Lu w.heap.size V p (wL p (l.take (k+1)) (begin p)) w5 by
     rw[jad.O,ay hc1];exact hU5.O)
    clear hc1 jad hU5 Xv QC;go_wp2_with fail;go_roundw
    case rel=>exact⟨k+1,V,by omega,by go_num,hb5.O,hU7.O,jnl.O,jk5.O,P6⟩
    case measure=>simp[RowKit.intOf];omega
  ·obtain rfl:k=l.length:=by omega
   rw[fG]at hU'
   have hmd:=hU'.O.made;have hone:=hmd.one;obtain⟨b0,b1,b2,b3,b4,b5,b6⟩:=P5.O.cells;go_wp2_with (refine dB (.tmp 4) (.tmp 30) dH V rfl AZ.O rfl hone (λw9 dM je=>?_))
   have hU9:=ah (hU'.O.kept je AZ.O);obtain⟨p0,p1,p2,p3,p4,p5,p6⟩:=jk.cells dM;have dN:=Below.gB hBr je;clear b0 b1 b2 b3 b4 b5 b6;go_wp2_with fail;exact fD (v:=V.val) (by simp[results,results35,go_sem,SV.val,p0,p1,p2,p3,p4,p5,p6]) rfl ⟨V,rfl,hU9.O,dN⟩
end Wh
