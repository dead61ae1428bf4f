/- Texts of the claim, joined. -/
import Derived.Laws.Strings2
import Derived.Laws.PanicsMore
import Derived.Defers
import Derived.Recover
import Derived.StillTailTactics
import Derived.Deep.LoopGhost
import Derived.Test.YtfhfkijmebhgmaaGreatQ34
set_option maxHeartbeats 20000000
set_option maxRecDepth 100000
namespace Wh
open Go Go.RowKit Go.Shelf Go.Proofs Tryz
attribute [local go_sem] au dQ dI dX
theorem Jm (l:List Nat):(kR l).size=l.length:=by simp [kR,ByteArray.size]
theorem jd8 (n:Nat) (r:List Nat):(kR (n::r)).extract 1 (r.length+1)=kR r:=by
 unfold kR;rw [ByteArray.extract_mk];have h:((n::r).map UInt8.ofNat).drop 1=r.map UInt8.ofNat:=rfl;rw [h,A8 (by simp)]
theorem Vk (l:List Nat):(kR l).toList=l.map UInt8.ofNat:=by
 rw [P5];simp [kR]
theorem jhd (n:Nat) (r:List Nat) (hn:n<256) (h:0<(kR (n::r)).size):(((kR (n::r))[0]'h).toNat:Int)=n:=by
 have e:(kR (n::r))[0]'h=UInt8.ofNat n:=rfl;rw [e];simp
 omega
theorem jjg (w:World) {gb n:Nat} {r:List Nat} (hg:dw w gb 176 [.string (kR (n::r))]) (hn:n<256):
  Calls prog 146 #[.pointer (some ⟨gb,0,none⟩)] w fun e w'=>e=.returned (.int .i64 n)∧dw w' gb 176 [.string (kR r)]∧w.grownBy w' (some gb):=by
 have c0:=hg.cell (j:=0) rfl;have f0:=hg.frozen 0;have hsz:=Jm (n::r);have hne:(kR (n::r)).toList.isEmpty=false:=by rw [Vk];rfl
 have htl:=jd8 n r;have hg':=Lib.hid hg;clear hg;go_enter func146,ntmps146
 go_wp2_with fail;go_ret
 obtain ⟨h1,h2⟩:=pF hg'.out 0 (.string (kR r));refine ⟨?_,h1,h2⟩
 rw [jhd n r hn];have:wrap64 (n:Int)=n:=by unfold wrap64;omega
 rw [this];rfl
theorem QS (w:World) {gb:Nat} (hg:dw w gb 176 [.string (kR [])]):
  Calls prog 146 #[.pointer (some ⟨gb,0,none⟩)] w fun e w'=>e=.panicked [{v:=.iface 181 (.agg #[]),recovered:=false}]∧w=w':=by
 have c0:=hg.cell (j:=0) rfl;have hne:(kR []).toList.isEmpty=true:=by rw [Vk];rfl
 go_enter func146,ntmps146
 go_wp2_with fail;exact ⟨rfl,rfl,rfl⟩
def jjZ:List PanicEntry:=[{v:=.iface 181 (.agg #[]),recovered:=false}]
def jhp (w:World) (gb tb m:Nat) (T:TypeId) (l:List Nat) (cs:List Value) (e:Ending) (w':World):Prop:=
 Step (fun j=>j=gb∨j=tb) w w'∧((m≤l.length∧e=.returned (.tuple #[])∧dw w' gb 176 [.string (kR (l.drop m))]∧dw w' tb T ((l.take m).map (fun n:Nat=>Value.int .i64 n)++cs.drop m))∨
  (l.length<m∧e=.panicked jjZ∧∃ cs',cs'.length=cs.length∧dw w' tb T cs'))
theorem jfn {l:List Nat} {cs:List Value} {k:Nat} (hk:k<l.length) (hc:k<cs.length):((l.take k).map (fun n:Nat=>Value.int .i64 n)++cs.drop k).set k (.int .i64 (l[k]:Nat))=(l.take (k+1)).map (fun n:Nat=>Value.int .i64 n)++cs.drop (k+1):=by
 have e1:((l.take k).map (fun n:Nat=>Value.int .i64 n)).length=k:=by rw [kF,dS];omega
 have h:=Bd (s:=(l.take k).map (fun n:Nat=>Value.int .i64 n)) (t:=cs.drop k) k (.int .i64 (l[k]:Nat)) (by rw [e1];exact aA _)
 rw [h,e1,AY,wO hc,iy,take_snoc hk,jl,jo];rfl
theorem jfg (w:World) {gb tb lb m:Nat} {T:TypeId} {l:List Nat} {cs:List Value} (hg:dw w gb 176 [.string (kR l)]) (ht:dw w tb T cs) (hT:T≠176) (hT2:T≠178)
  (hl:dw w lb 178 ((List.range m).map fun i=>Value.pointer (some ⟨tb,i,none⟩))) (hm:m≤cs.length) (hm8:m≤8) (hb:∀ n∈l,n<256):
  Calls prog 145 #[.pointer (some ⟨gb,0,none⟩),.slice (some ⟨lb,0,none⟩) m m] w (jhp w gb tb m T l cs):=by
 have hg':=Lib.hid hg;have ht':=Lib.hid ht;have hl':=Lib.hid hl;have hb':=Lib.hid hb;have n1:tb≠gb:=ht.ne hg hT;have n2:lb≠gb:=hl.ne hg (by decide)
 have n3:lb≠tb:=hl.ne ht (Ec hT2);clear hg ht hl hb;go_enter func145,ntmps145
 go_wp2_with fail;go_loopw [8,5] (fun i _ wr=>∃ k:Nat,k≤m∧k≤l.length∧i=.int .i64 k∧dw wr gb 176 [.string (kR (l.drop k))]∧dw wr tb T ((l.take k).map (fun n:Nat=>Value.int .i64 n)++cs.drop k)∧Step (fun j=>j=gb∨j=tb) w wr) (fun i _ _=>m - (RowKit.intOf i).toNat)
 case atStart=>exact ⟨0,aT _,aT _,rfl,hg'.out,by simpa using ht'.out,Step.refl _ _⟩
 case round=>
  obtain ⟨k,hk,hkl,rfl,hg,ht,hst⟩:=hrel;have hgr:=Lib.hid hg;have htr:=Lib.hid ht;have hst':=Lib.hid hst;clear hg ht hst;by_cases hlt:k<m
  ·have hki:(k:Int)<(m:Int):=by omega
   have hcl:wr.cell? ⟨lb,k,none⟩=some (.pointer (some ⟨tb,k,none⟩)):=(hst'.out.blk hl'.out (by omega)).cell (j:=k) (by rw [qc,Bl hlt];rfl)
   have ll:=(hst'.out.blk hl'.out (show ¬ (lb=gb∨lb=tb) by omega)).lt
   by_cases hlen:k<l.length
   ·have hdr:l.drop k=l[k]::l.drop (k+1):=wO hlen;have hn:=hb'.out _ (eF hlen);have hset:=Lib.hid (jfn hlen (show k<cs.length by omega))
    obtain ⟨n,hnn⟩:∃ n,l[k]=n:=⟨_,rfl⟩;rw [hnn] at hdr hn hset
    have jio:=Lib.hid (show dw wr gb 176 [.string (kR (n::l.drop (k+1)))] by rw [← hdr];exact hgr.out)
    clear hdr hgr hnn;go_wp2_with fail;refine (jjg wr jio.out hn).mono ?_
    rintro e W1 ⟨rfl,hg1,hgn⟩;have ht1:=Lib.hid (htr.out.grown hgn (by intro he;injection he with he;exact n1 he))
    have hg1':=Lib.hid hg1;have hst1:=Lib.hid (hst'.out.trans (Step.dG (ks:=fun j=>j=gb∨j=tb) hgn (fun q hq=>by injection hq with hq;exact .inl hq.symm)))
    have c1:∃ u,W1.cell? ⟨tb,k,none⟩=some u:=⟨_,ht1.out.cell (j:=k) (fF (by rw [dK,kF,dS,jT];omega))⟩
    obtain ⟨u,c1⟩:=c1;clear hg1 hgn htr hst' jio hcl;go_wp2_with (refine lH rfl (.tmp 15) (.tmp 14) rfl rfl tb k u n rfl rfl c1 (ht1.out.frozen _) (fun w3 hw3=>?_);refine aU ?_)
    unfold Hid;obtain ⟨ht3,hg3⟩:=pF ht1.out k (.int .i64 n);rw [hset.out,hw3] at ht3
    rw [hw3] at hg3
    have jfB:=Lib.hid ht3;have hg3':=Lib.hid (hg1'.out.grown hg3 (by intro he;injection he with he;exact n1 he.symm))
    have hst3:=Lib.hid (hst1.out.trans (Step.dG (ks:=fun j=>j=gb∨j=tb) hg3 (fun q hq=>by injection hq with hq;exact .inr hq.symm)))
    clear ht3 hg3 hw3 ht1 hg1' hst1 c1;go_wp2_with fail;go_roundw
    case rel=>exact ⟨k+1,by omega,by omega,by go_num,hg3'.out,jfB.out,hst3.out⟩
    case measure=>simp [RowKit.intOf];omega
   ·have hdr:l.drop k=[]:=PS (by omega)
    have jio:=Lib.hid (show dw wr gb 176 [.string (kR [])] by rw [← hdr];exact hgr.out)
    clear hgr hdr;go_wp2_with fail;refine (QS wr jio.out).mono ?_
    rintro e W1 ⟨rfl,rfl⟩;go_wp2_with fail;exact ⟨rfl,hst'.out,.inr ⟨by omega,rfl,_,by rw [dK,kF,dS,jT];omega,htr.out⟩⟩
  ·obtain rfl:k=m:=by omega
   go_wp2_with fail;go_end0
   exact ⟨hst'.out,.inl ⟨hkl,rfl,hgr.out,htr.out⟩⟩
end Wh
namespace Wh
open Go Go.RowKit Go.Shelf Go.Proofs Tryz
attribute [local go_sem] au dQ dI dX
def Td:List Value:=[.int .i64 0,.int .i64 0,.int .i64 0,.int .i64 0,.int .i64 0,.slice none 0 0]
theorem LU (w:World) {sb xb rb ib:Nat} {s:ByteArray} {cx:List Value} {r0 i0:Value} (hs:dw w sb 9 [.string s]) (hx:dw w xb 34 cx) (hcx:cx.length=6) (hr:dw w rb 9 [r0]) (hi:dw w ib 4 [i0]) (u:TypeId) (pv:Value) (older:List PanicEntry):
  CallsD prog 144 #[.pointer (some ⟨sb,0,none⟩),.pointer (some ⟨xb,0,none⟩),.pointer (some ⟨rb,0,none⟩),.pointer (some ⟨ib,0,none⟩)] (.panicking ({v:=.iface u pv,recovered:=false}::older)) w fun e u' w'=>
   e=.returned (.tuple #[])∧u'=.panicking ({v:=.iface u pv,recovered:=true}::older)∧dw w' xb 34 Td∧dw w' rb 9 [.string s]∧dw w' ib 4 [.bool false]∧Step (fun j=>j=xb∨j=rb∨j=ib) w w':=by
 have cs0:=hs.cell (j:=0) rfl;refine callsD_of_wpS func144 rfl fun c₀ cs hu=>?_
 apply wpS_seq;apply wpS_region;simp [wpOpsS,go_sem,recoverD,hu,ntmps144,Exit.thenS]
 refine wpS_cond (t:=true) (by simp [Act.eval,Array.replicate]) ?_
 simp only [wJ];refine wpS_of_wp ?_
 go_wp2_with (refine Pm rfl 34 (.tmp 1) (.tmp 6) rfl xb Td.toArray rfl rfl 34 cx.toArray hx (by kernel_rfl) (by simp [hcx,Td]) (by simp [Td,Value.oneCell']) ?_;refine aU ?_)
 unfold Hid;have n1:rb≠xb:=hr.ne hx (by decide)
 have n2:ib≠xb:=hi.ne hx (by decide)
 have n3:ib≠rb:=hi.ne hr (by decide)
 have hx1:=Lib.hid (hx.row Td);have hr1:=Lib.hid (hr.other n1 Td.toArray);have hi1:=Lib.hid (hi.other n2 Td.toArray);have hst1:=Lib.hid (Step.dG (ks:=fun j=>j=xb∨j=rb∨j=ib) (rE w xb Td.toArray) (fun q hq=>by injection hq with hq;exact .inl hq.symm))
 generalize w.setRow xb Td.toArray=w1 at hx1 hr1 hi1 hst1 ⊢
 clear hs hx hcx hr hi cs0 n1 n2;have d1:=hr1.out.cell (j:=0) rfl;have f1:=hr1.out.frozen 0;have d2:=hi1.out.cell (j:=0) rfl;have f2:=hi1.out.frozen 0;go_wp2_with fail;obtain ⟨hr2,hg2⟩:=pF hr1.out 0 (.string s);have hx2:=hx1.out.grown hg2 (by intro he;injection he with he;exact (hx1.out.ne hr1.out (by decide)) he)
 have hi2:=hi1.out.grown hg2 (by intro he;injection he with he;exact n3 he)
 obtain ⟨hi3,hg3⟩:=pF hi2 0 (.bool false);have hr3:=hr2.grown hg3 (by intro he;injection he with he;exact n3 he.symm)
 have hx3:=hx2.grown hg3 (by intro he;injection he with he;exact (hx2.ne hi2 (by decide)) he)
 have hst3:=(hst1.out.trans (Step.dG (ks:=fun j=>j=xb∨j=rb∨j=ib) hg2 (fun q hq=>by injection hq with hq;exact .inr (.inl hq.symm)))).trans (Step.dG (ks:=fun j=>j=xb∨j=rb∨j=ib) hg3 (fun q hq=>by injection hq with hq;exact .inr (.inr hq.symm)))
 exact ⟨rfl,_,rfl,_,Gl rfl _ _ _,rfl,rfl,hx3,hr3,hi3,hst3⟩
theorem jj8 (w:World) (sb xb rb ib:Nat):CallsD prog 144 #[.pointer (some ⟨sb,0,none⟩),.pointer (some ⟨xb,0,none⟩),.pointer (some ⟨rb,0,none⟩),.pointer (some ⟨ib,0,none⟩)] .returning w fun e u' w'=>e=.returned (.tuple #[])∧u'=.returning∧w=w':=by
 refine callsD_of_wpS func144 rfl fun c₀ cs hu=>?_
 apply wpS_seq;apply wpS_region;simp [wpOpsS,go_sem,recoverD,hu,ntmps144,Exit.thenS]
 refine wpS_cond (t:=false) (by simp [Act.eval,Array.replicate]) ?_
 simp only [og,yN];refine wpS_of_wp (wp_skip ?_)
 cases c₀;simp_all [bodyPostS,results,results144]
end Wh
namespace Wh
open Go Go.RowKit Go.Shelf Go.Proofs Tryz
attribute [local go_sem] au dQ dI dX
def EW (l:List Nat) (w:World) (e:Ending) (w':World):Prop:=
 Below w.heap.size w w'∧((kS l=0∧e=.returned (.tuple #[.agg #[.int .i64 0,.int .i64 0,.int .i64 0,.int .i64 0,.int .i64 0,.slice none 0 0],.string (kR l),.bool false]))∨
  (kS l≠0∧∃ vl,e=.returned (.tuple #[.agg #[.int .i64 (yL l).kind,.int .i64 (yL l).a,.int .i64 (yL l).b,.int .i64 (yL l).c,.int .i64 (yL l).n,vl],.string (kR (l.drop (kS l))),.bool true])∧Own eP 4 44 w' w.heap.size vl (yL l).lines))
theorem LZ:∀ (k:Nat) (t:List Nat),nM t (k+1)=nM t k++[⟨byteAt t (4*k),byteAt t (4*k+1),byteAt t (4*k+2),byteAt t (4*k+3)⟩]
 |0,t=>rfl
 |k+1,t=>by
  have h:=LZ k (t.drop 4);have e:∀ j,byteAt (t.drop 4) j=byteAt t (4+j):=fun j=>by
   unfold byteAt;simp [List.getD]
  rw [nM,h,nM,qg];simp only [e];rw [show 4+4*k=4*(k+1) by omega,show 4+(4*k+1)=4*(k+1)+1 by omega,show 4+(4*k+2)=4*(k+1)+2 by omega,show 4+(4*k+3)=4*(k+1)+3 by omega]
theorem Wj {q r:List Nat} {k a b c d:Nat} (h:q.drop (4*k)=a::b::c::d::r):nM q (k+1)=nM q k++[⟨a,b,c,d⟩]:=by
 have e:∀ j,byteAt q (4*k+j)=byteAt (q.drop (4*k)) j:=fun j=>by
  unfold byteAt;simp [List.getD]
 rw [LZ];have e0:=e 0;rw [lZ] at e0
 rw [e0,e 1,e 2,e 3,h];rfl
theorem jdT {α:Type} {l:List α} (h:4≤l.length):∃ a b c d r,l=a::b::c::d::r:=by
 match l,h with
 |a::b::c::d::r,_=>exact ⟨a,b,c,d,r,rfl⟩
theorem jdW {α:Type} {l:List α} (h:5≤l.length):∃ a b c d e r,l=a::b::c::d::e::r:=by
 match l,h with
 |a::b::c::d::e::r,_=>exact ⟨a,b,c,d,e,r,rfl⟩
structure RdB (w:World) (s:ByteArray) (cx:List Value) (W:World):Prop where
 below:Below w.heap.size w W
 hs:dw W w.heap.size 9 [.string s]
 hx:dw W (w.heap.size+1) 34 cx
 hr:dw W (w.heap.size+1+1) 9 [.string ⟨#[]⟩]
 hi:dw W (w.heap.size+1+1+1) 4 [.bool false]
theorem RdB.up {w:World} {s:ByteArray} {cx:List Value} {W W':World} (h:RdB w s cx W) (hb:Below W.heap.size W W'):RdB w s cx W':=
 ⟨h.below.trans (hb.mono h.below.size),h.hs.below hb h.hs.lt,h.hx.below hb h.hx.lt,h.hr.below hb h.hr.lt,h.hi.below hb h.hi.lt⟩
theorem RdB.off {w:World} {s:ByteArray} {cx:List Value} {W W':World} {ks:Nat→Prop} (h:RdB w s cx W) (hs:Step ks W W') (hk:∀ k,ks k→w.heap.size+1+1+1+1≤k):RdB w s cx W':=
 ⟨h.below.trans (hs.below (B:=w.heap.size) (fun k hh=>by have:=hk k hh;omega) h.below.size),hs.blk h.hs (fun hh=>by have:=hk _ hh;omega),hs.blk h.hx (fun hh=>by have:=hk _ hh;omega),hs.blk h.hr (fun hh=>by have:=hk _ hh;omega),hs.blk h.hi (fun hh=>by have:=hk _ hh;omega)⟩
theorem RdB.act {w:World} {s:ByteArray} {cx cx':List Value} {W W':World} {ks:Nat→Prop} (h:RdB w s cx W) (hs:Step ks W W') (hk:∀ k,ks k→k=w.heap.size+1∨w.heap.size+1+1+1+1≤k) (hx:dw W' (w.heap.size+1) 34 cx'):RdB w s cx' W':=
 ⟨h.below.trans (hs.below (B:=w.heap.size) (fun k hh=>by have:=hk k hh;omega) h.below.size),hs.blk h.hs (fun hh=>by have:=hk _ hh;omega),hx,hs.blk h.hr (fun hh=>by have:=hk _ hh;omega),hs.blk h.hi (fun hh=>by have:=hk _ hh;omega)⟩
theorem jd9 (w:World) (s:ByteArray):∃ W:World,(((((w.alloc (.cells #[.string s] 9)).alloc (.cells #[.int .i64 0,.int .i64 0,.int .i64 0,.int .i64 0,.int .i64 0,.slice none 0 0] 34)).alloc (.cells #[.string ⟨#[]⟩] 9)).alloc (.cells #[.bool false] 4)).alloc (.cells #[.string s] 176))=W∧
  RdB w s Td W∧dw W (w.heap.size+1+1+1+1) 176 [.string s]∧W.heap.size=w.heap.size+1+1+1+1+1:=by
 have h1:=dw.new w 9 #[.string s];have h2:=dw.new (w.alloc (.cells #[.string s] 9)) 34 #[.int .i64 0,.int .i64 0,.int .i64 0,.int .i64 0,.int .i64 0,.slice none 0 0];have h3:=dw.new ((w.alloc (.cells #[.string s] 9)).alloc (.cells #[.int .i64 0,.int .i64 0,.int .i64 0,.int .i64 0,.int .i64 0,.slice none 0 0] 34)) 9 #[.string ⟨#[]⟩];have h4:=dw.new (((w.alloc (.cells #[.string s] 9)).alloc (.cells #[.int .i64 0,.int .i64 0,.int .i64 0,.int .i64 0,.int .i64 0,.slice none 0 0] 34)).alloc (.cells #[.string ⟨#[]⟩] 9)) 4 #[.bool false];have h5:=dw.new ((((w.alloc (.cells #[.string s] 9)).alloc (.cells #[.int .i64 0,.int .i64 0,.int .i64 0,.int .i64 0,.int .i64 0,.slice none 0 0] 34)).alloc (.cells #[.string ⟨#[]⟩] 9)).alloc (.cells #[.bool false] 4)) 176 #[.string s];simp only [fP] at h2 h3 h4 h5
 refine ⟨_,rfl,⟨?_,(((h1.alloc _).alloc _).alloc _).alloc _,((h2.alloc _).alloc _).alloc _,(h3.alloc _).alloc _,h4.alloc _⟩,h5,by simp only [fP]⟩
 exact (((((aj _ _).alloc (aA _) _).alloc (by simp) _).alloc (by simp only [fP];omega) _).alloc (by simp only [fP];omega) _).alloc (by simp only [fP];omega) _
theorem RdB.grown {w:World} {s:ByteArray} {cx:List Value} {W W':World} {base:Nat} {v:Value} {ls:List Line} (h:RdB w s cx W) (ho:Own eP 4 44 W base v ls) (hb:w.heap.size≤base) (hg:W.grownBy W' v.ownBlock):RdB w s cx W':=by
 have key:∀ {g:Nat} {t:TypeId} {cur:List Value},dw W g t cur→44≠t→dw W' g t cur:=fun hk hne=>hk.grown hg (by
  rcases Own.iD ho hk hne with hn|hn
  ·rw [hn];intro he;cases he
  ·exact fun he=>hn he.symm)
 exact ⟨zh h.below hg h.below.size (fun k hk=>bJ hb (ho.size k hk).1),key h.hs (by decide),key h.hx (by decide),key h.hr (by decide),key h.hi (by decide)⟩
theorem RdB.jj1 {w:World} {s:ByteArray} {cx:List Value} {W:World} (h:RdB w s cx W) (j:Nat) (u:Value):RdB w s (cx.set j u) (W.setCell ⟨w.heap.size+1,j,none⟩ u)∧W.grownBy (W.setCell ⟨w.heap.size+1,j,none⟩ u) (some (w.heap.size+1)):=by
 obtain ⟨h1,h2⟩:=pF h.hx j u;exact ⟨h.act (Step.dG (ks:=(·=w.heap.size+1)) h2 (fun k hk=>by injection hk with hk;exact hk.symm)) (fun k hk=>.inl hk) h1,h2⟩
theorem jkn (w:World) (l:List Nat) (hb:∀ n∈l,n<256):Calls prog 85 #[.string (kR l)] w (EW l w):=by
 have hmf:∀ (fn:Fn) (first cap:Array Value) (w:World),(Instr.makeFunc fn first cap).run prog w=.ok (.func fn first cap) w:=fun _ _ _ _=>rfl
 have hb':=Lib.hid hb;clear hb;go_enter_defers func85,ntmps85
 go_wp2_with fail;obtain ⟨W,hW,hR,hG,hsz⟩:=jd9 w (kR l);rw [hW];clear hW;have hbp:Below W.heap.size W (W.alloc (.cells #[.pointer (some ⟨w.heap.size+1,0,none⟩),.pointer (some ⟨w.heap.size+1,1,none⟩),.pointer (some ⟨w.heap.size+1,2,none⟩),.pointer (some ⟨w.heap.size+1,3,none⟩),.pointer (some ⟨w.heap.size+1,4,none⟩)] 178)):=(aj _ _).alloc (aA _) _;have hpt:dw (W.alloc (.cells #[.pointer (some ⟨w.heap.size+1,0,none⟩),.pointer (some ⟨w.heap.size+1,1,none⟩),.pointer (some ⟨w.heap.size+1,2,none⟩),.pointer (some ⟨w.heap.size+1,3,none⟩),.pointer (some ⟨w.heap.size+1,4,none⟩)] 178)) (w.heap.size+1+1+1+1+1) 178 ((List.range 5).map fun i=>Value.pointer (some ⟨w.heap.size+1,i,none⟩)):=by
  have h:=dw.new W 178 #[.pointer (some ⟨w.heap.size+1,0,none⟩),.pointer (some ⟨w.heap.size+1,1,none⟩),.pointer (some ⟨w.heap.size+1,2,none⟩),.pointer (some ⟨w.heap.size+1,3,none⟩),.pointer (some ⟨w.heap.size+1,4,none⟩)];rw [hsz] at h
  exact h
 generalize W.alloc (.cells #[.pointer (some ⟨w.heap.size+1,0,none⟩),.pointer (some ⟨w.heap.size+1,1,none⟩),.pointer (some ⟨w.heap.size+1,2,none⟩),.pointer (some ⟨w.heap.size+1,3,none⟩),.pointer (some ⟨w.heap.size+1,4,none⟩)] 178)=W1 at hbp hpt ⊢
 have hR1:=hR.up hbp;have hG1:=hG.below hbp hG.lt;clear hR hG hbp hsz;refine (jfg W1 (m:=5) hG1 hR1.hx (by decide) (by decide) hpt (by decide) (by decide) hb'.out).mono ?_
 rintro e W2 ⟨hst,⟨h5,rfl,hG2,hx2⟩|⟨h5,rfl,cs',hcs,hx2⟩⟩
 ·have hR2:=hR1.act hst (fun k hk=>by omega) hx2
  clear hR1 hG1 hpt hst hx2;obtain ⟨a,b,c,d,e,r,rfl⟩:=jdW h5;have Zq:=Lib.hid (show RdB w (kR (a::b::c::d::e::r)) [.int .i64 a,.int .i64 b,.int .i64 c,.int .i64 d,.int .i64 e,.slice none 0 0] W2 from hR2)
  have jlu:dw W2 (w.heap.size+1+1+1+1) 176 [.string (kR r)]:=hG2;clear hR2 hG2 h5;go_wp2_with fail;rcases r with _|⟨n,q⟩
  ·refine (QS W2 jlu).mono ?_
   rintro e2 W3 ⟨rfl,rfl⟩;go_wp2_with fail;refine Gm (f:=144) (args:=#[.pointer (some ⟨w.heap.size,0,none⟩),.pointer (some ⟨w.heap.size+1,0,none⟩),.pointer (some ⟨w.heap.size+1+1,0,none⟩),.pointer (some ⟨w.heap.size+1+1+1,0,none⟩)]) (by simp) (by simp [go_sem]) ?_
   refine (LU _ (Zq.out).hs (Zq.out).hx rfl (Zq.out).hr (Zq.out).hi 181 (.agg #[]) []).mono ?_
   rintro e u' w9 ⟨rfl,rfl,qj,hr9,hi9,mQ⟩;have a0:=qj.cell (j:=0) rfl;have a1:=qj.cell (j:=1) rfl;have a2:=qj.cell (j:=2) rfl;have a3:=qj.cell (j:=3) rfl;have a4:=qj.cell (j:=4) rfl;have a5:=qj.cell (j:=5) rfl;have b0:=hr9.cell (j:=0) rfl;have i0:=hi9.cell (j:=0) rfl;have hfin:EW [a,b,c,d,e] w (.returned (.tuple #[.agg #[.int .i64 0,.int .i64 0,.int .i64 0,.int .i64 0,.int .i64 0,.slice none 0 0],.string (kR [a,b,c,d,e]),.bool false])) w9:=
    ⟨(Zq.out).below.trans (mQ.below (B:=w.heap.size) (fun k hk=>by omega) (Zq.out).below.size),.inl ⟨rfl,rfl⟩⟩
   have zy:=Lib.hid hfin;clear hfin qj hr9 hi9 mQ;simp [Leaves,settle,results,results85,go_sem,a0,a1,a2,a3,a4,a5,b0,i0]
   exact zy.out
  ·have hn:n<256:=hb'.out n (by simp)
   refine (jjg W2 jlu hn).mono ?_
   rintro e2 W3 ⟨rfl,hG3,hgr⟩;have hR3:=Lib.hid (Zq.out.off (Step.dG (ks:=(·=w.heap.size+1+1+1+1)) hgr (fun k hk=>by injection hk with hk;exact hk.symm)) (fun k hk=>by omega))
   clear Zq jlu hgr;by_cases h3:3<n
   ·have h3i:(3:Int)<(n:Int):=by omega
    have hz:kS (a::b::c::d::e::n::q)=0:=by
     unfold kS;rw [ah (by simp),ak (.inl (show 3<n from h3))]
    have hz':=Lib.hid hz;clear hz h3;go_wp2_with fail;refine Gm (f:=144) (args:=#[.pointer (some ⟨w.heap.size,0,none⟩),.pointer (some ⟨w.heap.size+1,0,none⟩),.pointer (some ⟨w.heap.size+1+1,0,none⟩),.pointer (some ⟨w.heap.size+1+1+1,0,none⟩)]) (by simp) (by simp [go_sem]) ?_
    refine (LU _ (hR3.out).hs (hR3.out).hx rfl (hR3.out).hr (hR3.out).hi 181 (.agg #[]) []).mono ?_
    rintro e u' w9 ⟨rfl,rfl,qj,hr9,hi9,mQ⟩;have a0:=qj.cell (j:=0) rfl;have a1:=qj.cell (j:=1) rfl;have a2:=qj.cell (j:=2) rfl;have a3:=qj.cell (j:=3) rfl;have a4:=qj.cell (j:=4) rfl;have a5:=qj.cell (j:=5) rfl;have b0:=hr9.cell (j:=0) rfl;have i0:=hi9.cell (j:=0) rfl;have hfin:EW (a::b::c::d::e::n::q) w (.returned (.tuple #[.agg #[.int .i64 0,.int .i64 0,.int .i64 0,.int .i64 0,.int .i64 0,.slice none 0 0],.string (kR (a::b::c::d::e::n::q)),.bool false])) w9:=
     ⟨(hR3.out).below.trans (mQ.below (B:=w.heap.size) (fun k hk=>by omega) (hR3.out).below.size),.inl ⟨hz'.out,rfl⟩⟩
    have zy:=Lib.hid hfin;clear hfin qj hr9 hi9 mQ;simp [Leaves,settle,results,results85,go_sem,a0,a1,a2,a3,a4,a5,b0,i0]
    exact zy.out
   ·have h3i:¬ (3:Int)<(n:Int):=by omega
    have joU:=Lib.hid hG3;clear hG3 h3;go_wp2_with fail;go_loopw [27,7] (fun i _ wr=>∃ (k:Nat) (vl:Value),k≤n∧4*k≤q.length∧i=.int .i64 k∧RdB w (kR (a::b::c::d::e::n::q)) [.int .i64 a,.int .i64 b,.int .i64 c,.int .i64 d,.int .i64 e,vl] wr∧dw wr (w.heap.size+1+1+1+1) 176 [.string (kR (q.drop (4*k)))]∧Own eP 4 44 wr w.heap.size vl (nM q k)) (fun i _ _=>n - (RowKit.intOf i).toNat)
    case atStart=>exact ⟨0,_,aT _,aT _,rfl,hR3.out,joU.out,Own.nil⟩
    case round=>
     clear hR3 joU;obtain ⟨k,vl,hk,hkq,rfl,hR,hG,hO⟩:=hrel;have hR':=Lib.hid hR;have hG':=Lib.hid hG;have hO':=Lib.hid hO;have hsz:=hR.hi.lt;have hgl:=hG.lt;have hbel:=hR.below.size;clear hR hG hO;by_cases hlt:k<n
     ·have hki:(k:Int)<(n:Int):=by omega
      go_wp2_with fail;have hb1:Below wr.heap.size wr ((wr.alloc (.cells #[.int .i64 0,.int .i64 0,.int .i64 0,.int .i64 0] 44)).alloc (.cells #[.pointer (some ⟨wr.heap.size,0,none⟩),.pointer (some ⟨wr.heap.size,1,none⟩),.pointer (some ⟨wr.heap.size,2,none⟩),.pointer (some ⟨wr.heap.size,3,none⟩)] 178)):=((aj _ _).alloc (aA _) _).alloc (by simp) _
      have htb:dw ((wr.alloc (.cells #[.int .i64 0,.int .i64 0,.int .i64 0,.int .i64 0] 44)).alloc (.cells #[.pointer (some ⟨wr.heap.size,0,none⟩),.pointer (some ⟨wr.heap.size,1,none⟩),.pointer (some ⟨wr.heap.size,2,none⟩),.pointer (some ⟨wr.heap.size,3,none⟩)] 178)) wr.heap.size 44 [.int .i64 0,.int .i64 0,.int .i64 0,.int .i64 0]:=(dw.new wr 44 #[.int .i64 0,.int .i64 0,.int .i64 0,.int .i64 0]).alloc _;have hpt:dw ((wr.alloc (.cells #[.int .i64 0,.int .i64 0,.int .i64 0,.int .i64 0] 44)).alloc (.cells #[.pointer (some ⟨wr.heap.size,0,none⟩),.pointer (some ⟨wr.heap.size,1,none⟩),.pointer (some ⟨wr.heap.size,2,none⟩),.pointer (some ⟨wr.heap.size,3,none⟩)] 178)) (wr.heap.size+1) 178 ((List.range 4).map fun i=>Value.pointer (some ⟨wr.heap.size,i,none⟩)):=by
       have h:=dw.new (wr.alloc (.cells #[.int .i64 0,.int .i64 0,.int .i64 0,.int .i64 0] 44)) 178 #[.pointer (some ⟨wr.heap.size,0,none⟩),.pointer (some ⟨wr.heap.size,1,none⟩),.pointer (some ⟨wr.heap.size,2,none⟩),.pointer (some ⟨wr.heap.size,3,none⟩)];rw [fP] at h
       exact h
      generalize (wr.alloc (.cells #[.int .i64 0,.int .i64 0,.int .i64 0,.int .i64 0] 44)).alloc (.cells #[.pointer (some ⟨wr.heap.size,0,none⟩),.pointer (some ⟨wr.heap.size,1,none⟩),.pointer (some ⟨wr.heap.size,2,none⟩),.pointer (some ⟨wr.heap.size,3,none⟩)] 178)=W4 at hb1 htb hpt ⊢
      refine (jfg W4 (m:=4) (hG'.out.below hb1 hgl) htb (by decide) (by decide) hpt (by decide) (by decide) (fun x hx=>hb'.out x (by
       have:=PG hx;simp [this]))).mono ?_
      rintro e3 W5 ⟨hst,⟨h4,rfl,hG5,ht5⟩|⟨h4,rfl,cs',hcs,ht5⟩⟩
      ·obtain ⟨a',b',c',d',r',hq⟩:=jdT h4;rw [hq] at hG5 ht5
       have hR5:=Lib.hid ((hR'.out.up hb1).off hst (fun k hk=>by omega))
       have hO5:=Lib.hid ((hO'.out.below hb1).step hst (fun k hk hh=>by
        rcases hh with rfl|rfl
        ·rcases Own.iD hO'.out hG'.out (by decide) with hn|hn
         ·rw [hn] at hk;cases hk
         ·exact hn hk
        ·have:=(hO'.out.size _ hk).2;omega))
       have jfA:dw W5 wr.heap.size 44 [.int .i64 a',.int .i64 b',.int .i64 c',.int .i64 d']:=ht5;have joT:=Lib.hid (show dw W5 (w.heap.size+1+1+1+1) 176 [.string (kR (q.drop (4*(k+1))))] by
        have e:q.drop (4*(k+1))=r':=by
         rw [show 4*(k+1)=4*k+4 by omega,← GI,hq]
         rfl
        rw [e];exact hG5)
       have hln:=Lib.hid (Wj hq);have hll:(nM q k).length≤1000000:=by
        have:∀ (m:Nat) (t:List Nat),(nM t m).length=m:=fun m=>by
         induction m with
         |zero=>intro t;rfl
         |succ m ih=>intro t;rw [nM,gQ,ih]
        rw [this];omega
       have hq5:4*(k+1)≤q.length:=by rw [jT] at h4;omega
       have hbase5:w.heap.size≤W5.heap.size:=hR5.out.below.size;have x5:=hR5.out.hx.cell (j:=5) rfl;have lx5:=hR5.out.hx.lt;have t0:=jfA.cell (j:=0) rfl;have t1:=jfA.cell (j:=1) rfl;have t2:=jfA.cell (j:=2) rfl;have t3:=jfA.cell (j:=3) rfl;clear hb1 htb hpt hst hG5 ht5 jfA hR' hG' hO' h4 hq;go_wp2_with (refine gK _ rfl (.tmp 37) (.tmp 39) 32 44 rfl w.heap.size _ 4 32 underlying32 Me rfl (by decide) (by decide) vl (nM q k) ⟨a',b',c',d'⟩ rfl (hO5.out.alloc _) ⟨W5.heap.size,0,none⟩ 1 rfl rfl (kT _ _ _) (jcs _) hll (by rw [fP];omega) (fun v9 w9 zD dh JG Ci=>?_);refine aU ?_)
       unfold Hid;obtain ⟨A9,c9,jfy⟩:=zD.isSlice;obtain ⟨n9,hn9⟩:∃ n9,(nM q k++[(⟨a',b',c',d'⟩:Line)]).length=n9:=⟨_,rfl⟩;rw [hn9] at jfy
       subst jfy;clear hn9 JG Ci;have hRa:=hR5.out.up ((aj W5.heap.size W5).alloc (aA _) (.cells #[.int .i64 a',.int .i64 b',.int .i64 c',.int .i64 d'] 44));have hOa:=hO5.out.alloc (.cells #[.int .i64 a',.int .i64 b',.int .i64 c',.int .i64 d'] 44);have hGa:=joT.out.alloc (.cells #[.int .i64 a',.int .i64 b',.int .i64 c',.int .i64 d'] 44);have hR9:=Lib.hid (hRa.grown hOa (aA _) dh);have hG9:=hGa.grown dh (by
        rcases Own.iD hOa hGa (by decide) with hn|hn
        ·rw [hn];intro he;cases he
        ·exact fun he=>hn he.symm)
       rw [← hln.out] at zD
       have y5:=hR9.out.hx.cell (j:=5) rfl;have z5:=hR9.out.hx.frozen 5;have ly5:=hR9.out.hx.lt;clear hRa hOa hGa dh x5 lx5 t0 t1 t2 t3 hR5 hO5 joT;go_wp2_with fail;obtain ⟨joF,vC⟩:=hR9.out.jj1 5 (.slice A9 n9 c9);have jgF:=Lib.hid (zD.kept vC (Own.iD zD hR9.out.hx (by decide)))
       have jq9:=Lib.hid (hG9.grown vC (by intro he;injection he with he;omega))
       have joE:=Lib.hid (show RdB w (kR (a::b::c::d::e::n::q)) [.int .i64 a,.int .i64 b,.int .i64 c,.int .i64 d,.int .i64 e,.slice A9 n9 c9] _ from joF)
       clear joF vC zD hG9 hR9 y5 z5 ly5;go_roundw
       case rel=>exact ⟨k+1,_,by omega,hq5,by go_num,joE.out,jq9.out,jgF.out⟩
       case measure=>simp [RowKit.intOf];omega
      ·have hR5:=Lib.hid ((hR'.out.up hb1).off hst (fun k hk=>by omega))
       have hz:kS (a::b::c::d::e::n::q)=0:=by
        have h5:byteAt (a::b::c::d::e::n::q) 5=n:=rfl;rw [jT] at h4
        unfold kS;rw [h5,ah (by simp),ak (.inr (by simp only [gQ];omega))]
       have hz':=Lib.hid hz;clear hR' hG' hO' hb1 htb hpt hst ht5 hz h4;go_wp2_with fail;refine Gm (f:=144) (args:=#[.pointer (some ⟨w.heap.size,0,none⟩),.pointer (some ⟨w.heap.size+1,0,none⟩),.pointer (some ⟨w.heap.size+1+1,0,none⟩),.pointer (some ⟨w.heap.size+1+1+1,0,none⟩)]) (by simp) (by simp [go_sem]) ?_
       refine (LU _ (hR5.out).hs (hR5.out).hx rfl (hR5.out).hr (hR5.out).hi 181 (.agg #[]) []).mono ?_
       rintro e u' w9 ⟨rfl,rfl,qj,hr9,hi9,mQ⟩;have a0:=qj.cell (j:=0) rfl;have a1:=qj.cell (j:=1) rfl;have a2:=qj.cell (j:=2) rfl;have a3:=qj.cell (j:=3) rfl;have a4:=qj.cell (j:=4) rfl;have a5:=qj.cell (j:=5) rfl;have b0:=hr9.cell (j:=0) rfl;have i0:=hi9.cell (j:=0) rfl;have hfin:EW (a::b::c::d::e::n::q) w (.returned (.tuple #[.agg #[.int .i64 0,.int .i64 0,.int .i64 0,.int .i64 0,.int .i64 0,.slice none 0 0],.string (kR (a::b::c::d::e::n::q)),.bool false])) w9:=
        ⟨(hR5.out).below.trans (mQ.below (B:=w.heap.size) (fun k hk=>by omega) (hR5.out).below.size),.inl ⟨hz'.out,rfl⟩⟩
       have zy:=Lib.hid hfin;clear hfin qj hr9 hi9 mQ;simp [Leaves,settle,results,results85,go_sem,a0,a1,a2,a3,a4,a5,b0,i0]
       exact zy.out
     ·obtain rfl:k=n:=by omega
      have h5:byteAt (a::b::c::d::e::k::q) 5=k:=rfl;have hac:kS (a::b::c::d::e::k::q)=6+4*k:=by
       unfold kS;rw [h5,ah (by simp),ah (by simp only [gQ];omega)]
      have hdr:List.drop (6+4*k) (a::b::c::d::e::k::q)=q.drop (4*k):=by
       rw [Nat.add_comm];rfl
      have jln:=Lib.hid hac;have hdr':=Lib.hid hdr;clear h5 hac hdr hlt;obtain ⟨A9,c9,jfy⟩:=hO'.out.isSlice;obtain ⟨n9,hn9⟩:∃ n9,(nM q k).length=n9:=⟨_,rfl⟩;rw [hn9] at jfy
      subst jfy;have x0:=hR'.out.hx.cell (j:=0) rfl;have x1:=hR'.out.hx.cell (j:=1) rfl;have x2:=hR'.out.hx.cell (j:=2) rfl;have x3:=hR'.out.hx.cell (j:=3) rfl;have x4:=hR'.out.hx.cell (j:=4) rfl;have x5:=hR'.out.hx.cell (j:=5) rfl;have g0:=hG'.out.cell (j:=0) rfl;clear hn9;go_wp2_with fail;go_still_tail 5,(by kernel_rfl)
      change wpList _ _ _ _ _ wr.drew;have hRd:=hR'.out.up (aj wr.heap.size wr).drew;have hOd:Own eP 4 44 wr.drew w.heap.size (.slice A9 n9 c9) (nM q k):=hO'.out.below (aj _ _).drew;refine Pm rfl 34 (.tmp 2) (.tmp 43) rfl (w.heap.size+1) #[.int .i64 a,.int .i64 b,.int .i64 c,.int .i64 d,.int .i64 e,.slice A9 n9 c9] rfl rfl 34 _ hRd.hx (by kernel_rfl) rfl (by simp [Value.oneCell']) ?_
      have hg1:=rE wr.drew (w.heap.size+1) #[.int .i64 a,.int .i64 b,.int .i64 c,.int .i64 d,.int .i64 e,.slice A9 n9 c9];have hR1:=hRd.act (Step.dG (ks:=(·=w.heap.size+1)) hg1 (fun j hj=>by injection hj with hj;exact hj.symm)) (fun j hj=>.inl hj) (hRd.hx.row [.int .i64 a,.int .i64 b,.int .i64 c,.int .i64 d,.int .i64 e,.slice A9 n9 c9])
      have hO1:=hOd.kept hg1 (Own.iD hOd hRd.hx (by decide))
      generalize wr.drew.setRow (w.heap.size+1) #[.int .i64 a,.int .i64 b,.int .i64 c,.int .i64 d,.int .i64 e,.slice A9 n9 c9]=w1 at hg1 hR1 hO1 ⊢
      clear x0 x1 x2 x3 x4 x5 g0 hRd hOd hg1 hR' hG' hO';have jbM:=Lib.hid hR1;have jlr:=Lib.hid hO1;have r0:=hR1.hr.cell (j:=0) rfl;have rf:=hR1.hr.frozen 0;have i0:=hR1.hi.cell (j:=0) rfl;have if0:=hR1.hi.frozen 0;clear hR1 hO1;go_wp2_with fail;refine Gm (f:=144) (args:=#[.pointer (some ⟨w.heap.size,0,none⟩),.pointer (some ⟨w.heap.size+1,0,none⟩),.pointer (some ⟨w.heap.size+1+1,0,none⟩),.pointer (some ⟨w.heap.size+1+1+1,0,none⟩)]) (by simp) (by simp [go_sem]) ?_
      refine (jj8 _ _ _ _ _).mono ?_
      rintro e3 u' w9 ⟨rfl,rfl,rfl⟩;clear r0 rf i0 if0;obtain ⟨hr2,hg2⟩:=pF jbM.out.hr 0 (.string (kR (q.drop (4*k))));have hx2:=jbM.out.hx.grown hg2 (by intro he;injection he with he;omega)
      have hi2:=jbM.out.hi.grown hg2 (by intro he;injection he with he;omega)
      have hO2:=jlr.out.kept hg2 (Own.iD jlr.out jbM.out.hr (by decide))
      have hb2:=jbM.out.below.grown hg2 jbM.out.below.size (fun j hj=>by injection hj with hj;omega)
      obtain ⟨hi3,hg3⟩:=pF hi2 0 (.bool true);have hx3:=hx2.grown hg3 (by intro he;injection he with he;omega)
      have hr3:=hr2.grown hg3 (by intro he;injection he with he;omega)
      have hO3:=hO2.kept hg3 (Own.iD hO2 hi2 (by decide))
      have hb3:=hb2.grown hg3 hb2.size (fun j hj=>by injection hj with hj;omega)
      generalize (w1.setCell ⟨w.heap.size+1+1,0,none⟩ (.string (kR (q.drop (4*k))))).setCell ⟨w.heap.size+1+1+1,0,none⟩ (.bool true)=wF at hi3 hx3 hr3 hO3 hb3 ⊢
      have a0:=hx3.cell (j:=0) rfl;have a1:=hx3.cell (j:=1) rfl;have a2:=hx3.cell (j:=2) rfl;have a3:=hx3.cell (j:=3) rfl;have a4:=hx3.cell (j:=4) rfl;have a5:=hx3.cell (j:=5) rfl;have b0:=hr3.cell (j:=0) rfl;have i0:=hi3.cell (j:=0) rfl;have hfin:EW (a::b::c::d::e::k::q) w (.returned (.tuple #[.agg #[.int .i64 a,.int .i64 b,.int .i64 c,.int .i64 d,.int .i64 e,.slice A9 n9 c9],.string (kR (q.drop (4*k))),.bool true])) wF:=
       ⟨hb3,.inr ⟨by rw [jln.out];omega,_,by rw [jln.out,hdr'.out];rfl,hO3⟩⟩
      have zy:=Lib.hid hfin;clear hfin hi3 hx3 hr3 hO3 hb3 hx2 hi2 hr2 hO2 hb2 hg2 hg3 jbM jlr jln hdr';simp [Leaves,settle,results,results85,go_sem,a0,a1,a2,a3,a4,a5,b0,i0]
      exact zy.out
 ·have hR2:=Lib.hid (hR1.act hst (fun k hk=>by omega) hx2)
  have hz:kS l=0:=by unfold kS;rw [ak (by omega)]
  have hz':=Lib.hid hz;clear hR1 hG1 hpt hst hx2 hz h5;go_wp2_with fail;refine Gm (f:=144) (args:=#[.pointer (some ⟨w.heap.size,0,none⟩),.pointer (some ⟨w.heap.size+1,0,none⟩),.pointer (some ⟨w.heap.size+1+1,0,none⟩),.pointer (some ⟨w.heap.size+1+1+1,0,none⟩)]) (by simp) (by simp [go_sem]) ?_
  refine (LU _ (hR2.out).hs (hR2.out).hx hcs (hR2.out).hr (hR2.out).hi 181 (.agg #[]) []).mono ?_
  rintro e u' w9 ⟨rfl,rfl,qj,hr9,hi9,mQ⟩;have a0:=qj.cell (j:=0) rfl;have a1:=qj.cell (j:=1) rfl;have a2:=qj.cell (j:=2) rfl;have a3:=qj.cell (j:=3) rfl;have a4:=qj.cell (j:=4) rfl;have a5:=qj.cell (j:=5) rfl;have b0:=hr9.cell (j:=0) rfl;have i0:=hi9.cell (j:=0) rfl;have hfin:EW l w (.returned (.tuple #[.agg #[.int .i64 0,.int .i64 0,.int .i64 0,.int .i64 0,.int .i64 0,.slice none 0 0],.string (kR l),.bool false])) w9:=
   ⟨(hR2.out).below.trans (mQ.below (B:=w.heap.size) (fun k hk=>by omega) (hR2.out).below.size),.inl ⟨hz'.out,rfl⟩⟩
  have zy:=Lib.hid hfin;clear hfin qj hr9 hi9 mQ;simp [Leaves,settle,results,results85,go_sem,a0,a1,a2,a3,a4,a5,b0,i0]
  exact zy.out
end Wh
namespace Wh
open Go Go.RowKit Go.Shelf Go.Proofs Tryz
attribute [local go_sem] au dQ dI dX
def jjS (x:qo×Value):List Value:=[.int .i64 x.1.kind,.int .i64 x.1.a,.int .i64 x.1.b,.int .i64 x.1.c,.int .i64 x.1.n,x.2]
theorem jh6:Elem prog 34 (.agg #[.int .i64 0,.int .i64 0,.int .i64 0,.int .i64 0,.int .i64 0,.slice none 0 0]) 6 64:=Af (by kernel_rfl)
theorem jb8 (w:World) (cs:Array Value) (e:TypeId):∀ j u,cs.toList[j]?=some u→((w.alloc (.cells cs e)).alloc (.cells cs e)).cell? ((⟨w.heap.size+1,0,none⟩:Addr).add j)=some u:=fun j u hj=>by
 have h:=kT (w.alloc (.cells cs e)) cs e j u hj;rw [fP] at h
 exact h
def uU (w:World) (base:Nat) (v:Value) (l:List qo):Prop:=∃ ps:List (qo×Value),ps.map (·.1)=l∧Own jjS 6 34 w base v ps∧∀ x∈ps,Own eP 4 44 w base x.2 x.1.lines
theorem uU.below {w w':World} {base:Nat} {v:Value} {l:List qo} (h:uU w base v l) (hb:Below w.heap.size w w'):uU w' base v l:=by
 obtain ⟨ps,h1,h2,h3⟩:=h;exact ⟨ps,h1,h2.below hb,fun x hx=>(h3 x hx).below hb⟩
theorem uU.nil {w:World} {base:Nat}:uU w base (.slice none 0 0) []:=⟨[],rfl,Own.nil,fun x hx=>by cases hx⟩
theorem uU.isSlice {w:World} {base:Nat} {v:Value} {l:List qo} (h:uU w base v l):∃ A c,v=.slice A l.length c:=by
 obtain ⟨ps,h1,h2,h3⟩:=h;obtain ⟨A,c,e⟩:=h2.isSlice;exact ⟨A,c,by rw [e,← h1,kF]⟩
theorem uU.from_ {w:World} {base base':Nat} {v:Value} {l:List qo} (h:uU w base v l) (hb:base'≤base):uU w base' v l:=by
 obtain ⟨ps,h1,h2,h3⟩:=h;exact ⟨ps,h1,h2.from_ hb,fun x hx=>(h3 x hx).from_ hb⟩
theorem Hf {n:Nat} {t:List Nat} (h:n=0∨kS t=0):replay n t=([],0):=by
 rcases n with _|n
 ·rfl
 ·rw [replay,ak (by omega)]
theorem NU {n:Nat} {t:List Nat} (h:kS t≠0):replay (n+1) t=(yL t::(replay n (t.drop (kS t))).1,kS t+(replay n (t.drop (kS t))).2):=by
 rw [replay,ah h]
theorem YR (w:World) (t:List Nat) (hb:∀ n∈t,n<256):Calls prog 30 #[.string (kR t)] w fun e w'=>
  ∃ v,e=.returned (.tuple #[v,.int .i64 (mX t).2.1,.int .i64 (mX t).2.2])∧uU w' w.heap.size v (mX t).1∧Below w.heap.size w w':=by
 have hb':=Lib.hid hb;have hsz:=Jm t;clear hb;go_enter func30,ntmps30
 by_cases hlong:4096<t.length
 ·have hli:(4096:Int)<(t.length:Int):=by omega
  have hfin:=Lib.hid (show mX t=([],0,2) by unfold mX;rw [ak hlong])
  clear hlong;go_wp2_with fail;exact jS (v:=.tuple #[.slice none 0 0,.int .i64 0,.int .i64 2]) (by simp [results,results30,go_sem]) rfl ⟨_,by rw [hfin.out],by rw [hfin.out];exact uU.nil,aj _ _⟩
 ·have hli:¬ (4096:Int)<(t.length:Int):=by omega
  have hfin:=Lib.hid (show mX t=((replay 60 t).1,((replay 60 t).2:Int),0) by unfold mX;rw [ah hlong])
  go_wp2_with fail;go_loopg [5,6] 60 (fun gk lv sv wr=>∃ (done:List qo) (rem:List Nat),gk=60 - done.length∧done.length≤60∧sv=.string (kR rem)∧uU wr w.heap.size lv done∧rem.length≤t.length∧(∀ n∈rem,n<256)∧
   replay 60 t=(done++(replay (60 - done.length) rem).1,(t.length - rem.length)+(replay (60 - done.length) rem).2)∧Below w.heap.size w wr)
  case atStart=>exact ⟨[],t,rfl,by simp,rfl,uU.nil,aA _,hb'.out,by simp,aj _ _⟩
  case round=>
   obtain ⟨done,rem,hgk,hd,rfl,hA,hrl,hrb,heq,hB⟩:=hrel;obtain ⟨Al,cl,rfl⟩:=hA.isSlice;have heq':=Lib.hid heq;have hA':=Lib.hid hA;have jnN:=Lib.hid hrb;have jbu:=Lib.hid hgk;have hsr:=Jm rem;have hw1:IntKind.i64.wrap ((t.length:Int) - (rem.length:Int))=(t.length:Int) - (rem.length:Int):=bf _ (by omega)
   clear heq hA hrb hgk;by_cases h60:done.length<60
   ·have h6i:(done.length:Int)<60:=by omega
    go_wp2_with fail;refine (jkn wr rem jnN.out).mono ?_
    rintro e W1 ⟨h1,⟨hz,rfl⟩|⟨hnz,vl,rfl,hO⟩⟩
    ·have hA1:=Lib.hid (hA'.out.below h1);have hB1:=hB.trans (h1.mono hB.size);have hz':=Lib.hid hz;have hA2:=Lib.hid (hA1.out.below ((aj W1.heap.size W1).alloc (aA _) (.cells #[.int .i64 0,.int .i64 0,.int .i64 0,.int .i64 0,.int .i64 0,.slice none 0 0] 34)));have hB2:=hB1.alloc hB1.size (.cells #[.int .i64 0,.int .i64 0,.int .i64 0,.int .i64 0,.int .i64 0,.slice none 0 0] 34);clear hA' hz h1;have hq:replay 60 t=(done,t.length - rem.length):=by
      rw [heq'.out,Hf (.inr hz'.out)];simp
     have hf1:=Lib.hid (show mX t=(done,((t.length:Int) - (rem.length:Int)),0) by
      rw [hfin.out,hq];simp only [Ea,nV,nU];omega)
     clear hq;go_wp2_with fail;exact jS (v:=.tuple #[.slice Al done.length cl,.int .i64 ((t.length:Int) - (rem.length:Int)),.int .i64 0]) (by simp [results,results30,go_sem]) rfl ⟨_,by rw [hf1.out],by rw [hf1.out];exact hA2.out,hB2⟩
    ·obtain ⟨A2,c2,hvl⟩:=hO.isSlice;obtain ⟨n2,hn2⟩:∃ n2,(yL rem).lines.length=n2:=⟨_,rfl⟩;rw [hn2] at hvl
     subst hvl;obtain ⟨x,hx⟩:∃ x,yL rem=x:=⟨_,rfl⟩;obtain ⟨Yl,UY⟩:∃ Yl,rem.drop (kS rem)=Yl:=⟨_,rfl⟩;have hle:=Vr rem;have hl2:Yl.length≤t.length:=by rw [← UY,jT];omega
     have jqa:=Lib.hid (show ∀ n∈Yl,n<256 from fun n hn=>jnN.out n (by rw [← UY] at hn;exact PG hn))
     have heq2:=Lib.hid (show replay 60 t=((done++[x])++(replay (60 - (done++[x]).length) Yl).1,(t.length - Yl.length)+(replay (60 - (done++[x]).length) Yl).2) by
      have e1:60 - done.length=(60 - (done++[x]).length)+1:=by rw [dK];simp only [gQ,je];omega
      rw [heq'.out,e1,NU hnz,hx,UY,jo,List.singleton_append];simp only [Ea,nU];rw [← UY,jT];omega)
     rw [hx,UY];rw [hx] at hO
     have hA1:=Lib.hid (hA'.out.below h1);have hB1:=hB.trans (h1.mono hB.size);have hO1:=Lib.hid (hO.from_ hB.size);clear hx UY hn2 hO h1 hA' hnz hle;obtain ⟨ps,hps,hown,hlin⟩:=hA1.out;have hown':=Lib.hid hown;have jjy:=Lib.hid hlin;have jnP:=Lib.hid hps;have hpl:ps.length≤1000000:=by have:=fO List.length hps;rw [kF] at this;omega
     have hbs:=hB1.size;have hpe:ps.length=done.length:=by rw [← hps,kF]
     clear hown hlin hps hpe;go_wp2_with (refine gK _ rfl (.tmp 25) (.tmp 27) 63 34 rfl w.heap.size _ 6 64 underlying63 jh6 rfl (by decide) (by decide) (.slice Al done.length cl) ps (x,.slice A2 n2 c2) rfl ((hown'.out.alloc _).alloc _) ⟨W1.heap.size+1,0,none⟩ 1 rfl rfl (jb8 _ _ _) (by simp [jjS,Value.oneCell']) hpl (by rw [fP,fP];omega) (fun v9 w9 zD dh JG Ci=>?_);refine aU ?_)
     unfold Hid;have hb2:Below W1.heap.size W1 ((W1.alloc (.cells #[.int .i64 x.kind,.int .i64 x.a,.int .i64 x.b,.int .i64 x.c,.int .i64 x.n,.slice A2 n2 c2] 34)).alloc (.cells #[.int .i64 x.kind,.int .i64 x.a,.int .i64 x.b,.int .i64 x.c,.int .i64 x.n,.slice A2 n2 c2] 34)):=((aj _ _).alloc (aA _) _).alloc (by simp) _
     have hA9:=Lib.hid (show uU w9 w.heap.size v9 (done++[x]) from ⟨ps++[(x,.slice A2 n2 c2)],by rw [jl,jnP.out];rfl,zD,fun y hy=>by
      have hy1:Own eP 4 44 W1 w.heap.size y.2 y.1.lines:=by
       rcases qQ.1 hy with h|h
       ·exact jjy.out y h
       ·rw [pX] at h
        subst h;exact hO1.out
      exact (hy1.below hb2).kept dh (Own.apart (hy1.below hb2) (hown'.out.below hb2) (by decide))⟩)
     have hB9:=hB1.trans (hb2.mono hB1.size)|>.trans Ci
     clear zD dh JG Ci hb2 hown' jjy jnP hA1 hO1 hB1;go_wp2_with fail;go_roundg (60 - (done++[x]).length)
     case rel=>exact ⟨done++[x],Yl,rfl,by rw [dK];simp only [gQ,je];omega,rfl,hA9.out,hl2,jqa.out,heq2.out,hB9⟩
     case measure=>rw [jbu.out,dK];simp only [gQ,je];omega
   ·have h6i:¬ (done.length:Int)<60:=by omega
    have jri:60 - done.length=0:=by omega
    have hq:replay 60 t=(done,t.length - rem.length):=by
     rw [heq'.out,Hf (.inl jri)];simp
    have hf1:=Lib.hid (show mX t=(done,((t.length:Int) - (rem.length:Int)),0) by
     rw [hfin.out,hq];simp only [Ea,nV,nU];omega)
    clear hq;go_wp2_with fail;exact jS (v:=.tuple #[.slice Al done.length cl,.int .i64 ((t.length:Int) - (rem.length:Int)),.int .i64 0]) (by simp [results,results30,go_sem]) rfl ⟨_,by rw [hf1.out],by rw [hf1.out];exact hA'.out,hB⟩
end Wh
