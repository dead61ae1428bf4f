/- Texts of the claim, joined. -/
import Derived.Defers
import Derived.Recover
import Derived.StillTailTactics
import Derived.Deep.LoopGhost
import Derived.Test.YtfhfkijmebhgmaaGreatQ35
set_option maxHeartbeats 20000000
set_option maxRecDepth 100000
namespace Wh
open Go Go.RowKit Go.Shelf Go.Proofs Tryz
attribute [local go_sem] aT jW jm kC
def Xy:List Value:=[.int .i64 0,.int .i64 0,.int .i64 0,.int .i64 0,.int .i64 0,.slice none 0 0]
theorem Q7(w:World){sb xb rb ib:Nat}{s:ByteArray}{cx:List Value}{r0 i0:Value}(hs:iV w sb 9 [.string s])(hx:iV w xb 34 cx)(hcx:cx.length=6)(hr:iV w rb 9 [r0])(hi:iV w ib 4 [i0])(u:TypeId)(pv:Value)(older:List PanicEntry):
  CallsD prog 144 #[.pointer (some ⟨sb,0,none⟩),.pointer (some ⟨xb,0,none⟩),.pointer (some ⟨rb,0,none⟩),.pointer (some ⟨ib,0,none⟩)] (.panicking ({v:=.iface u pv,recovered:=false}::older)) w λe u' w'=>
   e=.returned (.tuple #[])/\u'=.panicking ({v:=.iface u pv,recovered:=true}::older)/\iV w' xb 34 Xy/\iV w' rb 9 [.string s]/\iV w' ib 4 [.bool false]/\Step (λj=>j=xb\/j=rb\/j=ib) w w':=by
 have cs0:=hs.cell (j:=0) rfl;refine callsD_of_wpS func144 rfl λc₀ cs hu=>?_
 apply wpS_seq;apply wpS_region;simp[wpOpsS,go_sem,recoverD,hu,ntmps144,Exit.thenS]
 refine wpS_cond (t:=true) (by simp[Act.eval,Array.replicate]) ?_
 simp only[uf];refine wpS_of_wp ?_
 go_wp2_with (refine oI rfl 34 (.tmp 1) (.tmp 6) rfl xb Xy.toArray rfl rfl 34 cx.toArray hx (by kernel_rfl) (by simp[hcx,Xy]) (by simp[Xy,Value.oneCell']) ?_;refine aW ?_)
 unfold Hid;have n1:rb≠xb:=hr.ne hx (by decide)
 have n2:ib≠xb:=hi.ne hx (by decide)
 have n3:ib≠rb:=hi.ne hr (by decide)
 have hx1:=ah (hx.row Xy);have hr1:=ah (hr.other n1 Xy.toArray);have hi1:=ah (hi.other n2 Xy.toArray);have hst1:=ah (Step.jR (ks:=λj=>j=xb\/j=rb\/j=ib) (yU w xb Xy.toArray) (λq hq=>by injection hq with hq;exact .inl hq.symm))
 generalize w.setRow xb Xy.toArray=w1 at hx1 hr1 hi1 hst1 ⊢
 clear hs hx hcx hr hi cs0 n1 n2;have d1:=hr1.O.cell (j:=0) rfl;have f1:=hr1.O.frozen 0;have d2:=hi1.O.cell (j:=0) rfl;have f2:=hi1.O.frozen 0;go_wp2_with fail;obtain⟨hr2,hg2⟩:=xA hr1.O 0 (.string s);have hx2:=hx1.O.grown hg2 (by intro he;injection he with he;exact(hx1.O.ne hr1.O (by decide)) he)
 have hi2:=hi1.O.grown hg2 (by intro he;injection he with he;exact n3 he)
 obtain⟨hi3,hg3⟩:=xA hi2 0 (.bool false);have hr3:=hr2.grown hg3 (by intro he;injection he with he;exact n3 he.symm)
 have hx3:=hx2.grown hg3 (by intro he;injection he with he;exact(hx2.ne hi2 (by decide)) he)
 have hst3:=(hst1.O.trans (Step.jR (ks:=λj=>j=xb\/j=rb\/j=ib) hg2 (λq hq=>by injection hq with hq;exact .inr (.inl hq.symm)))).trans (Step.jR (ks:=λj=>j=xb\/j=rb\/j=ib) hg3 (λq hq=>by injection hq with hq;exact .inr (.inr hq.symm)))
 exact⟨rfl,_,rfl,_,xk rfl _ _ _,rfl,rfl,hx3,hr3,hi3,hst3⟩
theorem jmM(w:World)(sb xb rb ib:Nat):CallsD prog 144 #[.pointer (some ⟨sb,0,none⟩),.pointer (some ⟨xb,0,none⟩),.pointer (some ⟨rb,0,none⟩),.pointer (some ⟨ib,0,none⟩)] .returning w λe u' w'=>e=.returned (.tuple #[])/\u'=.returning/\w=w':=by
 refine callsD_of_wpS func144 rfl λc₀ cs hu=>?_
 apply wpS_seq;apply wpS_region;simp[wpOpsS,go_sem,recoverD,hu,ntmps144,Exit.thenS]
 refine wpS_cond (t:=false) (by simp[Act.eval,Array.replicate]) ?_
 simp only[iE,uH];refine wpS_of_wp (wp_skip ?_)
 cases c₀;simp_all[bodyPostS,results,results144]
end Wh
namespace Wh
open Go Go.RowKit Go.Shelf Go.Proofs Tryz
attribute [local go_sem] aT jW jm kC
def Ls(l:List Nat)(w:World)(e:Ending)(w':World):Prop:=
 Below w.heap.size w w'/\((oz l=0/\e=.returned (.tuple #[.agg #[.int .i64 0,.int .i64 0,.int .i64 0,.int .i64 0,.int .i64 0,.slice none 0 0],.string (pz l),.bool false]))\/
  (oz l≠0/\∃vl,e=.returned (.tuple #[.agg #[.int .i64 (yI l).dW,.int .i64 (yI l).a,.int .i64 (yI l).b,.int .i64 (yI l).c,.int .i64 (yI l).n,vl],.string (pz (l.drop (oz l))),.bool true])/\Own kP 4 44 w' w.heap.size vl (yI l).aH))
theorem LY:∀(k:Nat) (t:List Nat),ql t (k+1)=ql t k++[⟨dI t (4*k),dI t (4*k+1),dI t (4*k+2),dI t (4*k+3)⟩]
 |0,t=>rfl
 |k+1,t=>by
  have h:=LY k (t.drop 4);have e:∀j,dI (t.drop 4) j=dI t (4+j):=λj=>by
   unfold dI;simp[List.getD]
  rw[ql,h,ql,jK];simp only[e];rw[show 4+4*k=4*(k+1)by omega,show 4+(4*k+1)=4*(k+1)+1 by omega,show 4+(4*k+2)=4*(k+1)+2 by omega,show 4+(4*k+3)=4*(k+1)+3 by omega]
theorem ZO{q r:List Nat}{k a b c d:Nat}(h:q.drop (4*k)=a::b::c::d::r):ql q (k+1)=ql q k++[⟨a,b,c,d⟩]:=by
 have e:∀j,dI q (4*k+j)=dI (q.drop (4*k)) j:=λj=>by
  unfold dI;simp[List.getD]
 rw[LY];have e0:=e 0;rw[jB]at e0
 rw[e0,e 1,e 2,e 3,h];rfl
theorem jgn{α:Type}{l:List α}(h:4<=l.length):∃a b c d r,l=a::b::c::d::r:=by
 match l,h with
 |a::b::c::d::r,_=>exact⟨a,b,c,d,r,rfl⟩
theorem jgq{α:Type}{l:List α}(h:5<=l.length):∃a b c d e r,l=a::b::c::d::e::r:=by
 match l,h with
 |a::b::c::d::e::r,_=>exact⟨a,b,c,d,e,r,rfl⟩
structure RdB(w:World)(s:ByteArray)(cx:List Value)(W:World):Prop where
 below:Below w.heap.size w W
 hs:iV W w.heap.size 9 [.string s]
 hx:iV W (w.heap.size+1) 34 cx
 hr:iV W (w.heap.size+1+1) 9 [.string ⟨#[]⟩]
 hi:iV W (w.heap.size+1+1+1) 4 [.bool false]
theorem RdB.up{w:World}{s:ByteArray}{cx:List Value}{W W':World}(h:RdB w s cx W)(hb:Below W.heap.size W W'):RdB w s cx W':=
 ⟨h.below.trans (hb.mono h.below.size),h.hs.below hb h.hs.lt,h.hx.below hb h.hx.lt,h.hr.below hb h.hr.lt,h.hi.below hb h.hi.lt⟩
theorem RdB.off{w:World}{s:ByteArray}{cx:List Value}{W W':World}{ks:Nat->Prop}(h:RdB w s cx W)(hs:Step ks W W')(hk:∀k,ks k->w.heap.size+1+1+1+1<=k):RdB w s cx W':=
 ⟨h.below.trans (hs.below (B:=w.heap.size) (λk hh=>by have:=hk k hh;omega) h.below.size),hs.blk h.hs (λhh=>by have:=hk _ hh;omega),hs.blk h.hx (λhh=>by have:=hk _ hh;omega),hs.blk h.hr (λhh=>by have:=hk _ hh;omega),hs.blk h.hi (λhh=>by have:=hk _ hh;omega)⟩
theorem RdB.act{w:World}{s:ByteArray}{cx cx':List Value}{W W':World}{ks:Nat->Prop}(h:RdB w s cx W)(hs:Step ks W W')(hk:∀k,ks k->k=w.heap.size+1\/w.heap.size+1+1+1+1<=k)(hx:iV W' (w.heap.size+1) 34 cx'):RdB w s cx' W':=
 ⟨h.below.trans (hs.below (B:=w.heap.size) (λk hh=>by have:=hk k hh;omega) h.below.size),hs.blk h.hs (λhh=>by have:=hk _ hh;omega),hx,hs.blk h.hr (λhh=>by have:=hk _ hh;omega),hs.blk h.hi (λhh=>by have:=hk _ hh;omega)⟩
theorem jgE(w:World)(s:ByteArray):∃W:World,(((((w.alloc (.cells #[.string s] 9)).alloc (.cells #[.int .i64 0,.int .i64 0,.int .i64 0,.int .i64 0,.int .i64 0,.slice none 0 0] 34)).alloc (.cells #[.string ⟨#[]⟩] 9)).alloc (.cells #[.bool false] 4)).alloc (.cells #[.string s] 176))=W/\
  RdB w s Xy W/\iV W (w.heap.size+1+1+1+1) 176 [.string s]/\W.heap.size=w.heap.size+1+1+1+1+1:=by
 have h1:=iV.new w 9 #[.string s];have h2:=iV.new (w.alloc (.cells #[.string s] 9)) 34 #[.int .i64 0,.int .i64 0,.int .i64 0,.int .i64 0,.int .i64 0,.slice none 0 0];have h3:=iV.new ((w.alloc (.cells #[.string s] 9)).alloc (.cells #[.int .i64 0,.int .i64 0,.int .i64 0,.int .i64 0,.int .i64 0,.slice none 0 0] 34)) 9 #[.string ⟨#[]⟩];have h4:=iV.new (((w.alloc (.cells #[.string s] 9)).alloc (.cells #[.int .i64 0,.int .i64 0,.int .i64 0,.int .i64 0,.int .i64 0,.slice none 0 0] 34)).alloc (.cells #[.string ⟨#[]⟩] 9)) 4 #[.bool false];have h5:=iV.new ((((w.alloc (.cells #[.string s] 9)).alloc (.cells #[.int .i64 0,.int .i64 0,.int .i64 0,.int .i64 0,.int .i64 0,.slice none 0 0] 34)).alloc (.cells #[.string ⟨#[]⟩] 9)).alloc (.cells #[.bool false] 4)) 176 #[.string s];simp only[cO]at h2 h3 h4 h5
 refine⟨_,rfl,⟨?_,(((h1.alloc _).alloc _).alloc _).alloc _,((h2.alloc _).alloc _).alloc _,(h3.alloc _).alloc _,h4.alloc _⟩,h5,by simp only[cO]⟩
 exact(((((aj _ _).alloc (au _) _).alloc (by simp) _).alloc (by simp only[cO];omega) _).alloc (by simp only[cO];omega) _).alloc (by simp only[cO];omega) _
theorem RdB.grown{w:World}{s:ByteArray}{cx:List Value}{W W':World}{aO:Nat}{v:Value}{ls:List Line}(h:RdB w s cx W)(ho:Own kP 4 44 W aO v ls)(hb:w.heap.size<=aO)(hg:W.grownBy W' v.ownBlock):RdB w s cx W':=by
 have key:∀ {g:Nat} {t:TypeId} {cur:List Value},iV W g t cur->44≠t->iV W' g t cur:=λhk hne=>hk.grown hg (by
  rcases Own.mQ ho hk hne with hn|hn
  ·rw[hn];intro he;cases he
  ·exact λhe=>hn he.symm)
 exact⟨qR h.below hg h.below.size (λk hk=>aY hb (ho.size k hk).1),key h.hs (by decide),key h.hx (by decide),key h.hr (by decide),key h.hi (by decide)⟩
theorem RdB.jmG{w:World}{s:ByteArray}{cx:List Value}{W:World}(h:RdB w s cx W)(j:Nat)(u:Value):RdB w s (cx.set j u) (W.setCell ⟨w.heap.size+1,j,none⟩ u)/\W.grownBy (W.setCell ⟨w.heap.size+1,j,none⟩ u) (some (w.heap.size+1)):=by
 obtain⟨h1,h2⟩:=xA h.hx j u;exact⟨h.act (Step.jR (ks:=(·=w.heap.size+1)) h2 (λk hk=>by injection hk with hk;exact hk.symm)) (λk hk=>.inl hk) h1,h2⟩
theorem jm1(w:World)(l:List Nat)(hb:∀n∈l,n<256):Calls prog 85 #[.string (pz l)] w (Ls l w):=by
 have hmf:∀(fn:Fn) (first cap:Array Value) (w:World),(Instr.makeFunc fn first cap).run prog w=.ok (.func fn first cap) w:=λ_ _ _ _=>rfl
 have hb':=ah hb;clear hb;go_enter_defers func85,ntmps85
 go_wp2_with fail;obtain⟨W,hW,hR,hG,hsz⟩:=jgE w (pz l);rw[hW];clear hW;have hbp:Below W.heap.size W (W.alloc (.cells #[.pointer (some ⟨w.heap.size+1,0,none⟩),.pointer (some ⟨w.heap.size+1,1,none⟩),.pointer (some ⟨w.heap.size+1,2,none⟩),.pointer (some ⟨w.heap.size+1,3,none⟩),.pointer (some ⟨w.heap.size+1,4,none⟩)] 178)):=(aj _ _).alloc (au _) _;have hpt:iV (W.alloc (.cells #[.pointer (some ⟨w.heap.size+1,0,none⟩),.pointer (some ⟨w.heap.size+1,1,none⟩),.pointer (some ⟨w.heap.size+1,2,none⟩),.pointer (some ⟨w.heap.size+1,3,none⟩),.pointer (some ⟨w.heap.size+1,4,none⟩)] 178)) (w.heap.size+1+1+1+1+1) 178 ((List.range 5).map λi=>Value.pointer (some ⟨w.heap.size+1,i,none⟩)):=by
  have h:=iV.new W 178 #[.pointer (some ⟨w.heap.size+1,0,none⟩),.pointer (some ⟨w.heap.size+1,1,none⟩),.pointer (some ⟨w.heap.size+1,2,none⟩),.pointer (some ⟨w.heap.size+1,3,none⟩),.pointer (some ⟨w.heap.size+1,4,none⟩)];rw[hsz]at h
  exact h
 generalize W.alloc (.cells #[.pointer (some ⟨w.heap.size+1,0,none⟩),.pointer (some ⟨w.heap.size+1,1,none⟩),.pointer (some ⟨w.heap.size+1,2,none⟩),.pointer (some ⟨w.heap.size+1,3,none⟩),.pointer (some ⟨w.heap.size+1,4,none⟩)] 178)=W1 at hbp hpt ⊢
 have hR1:=hR.up hbp;have hG1:=hG.below hbp hG.lt;clear hR hG hbp hsz;refine(jhP W1 (m:=5) hG1 hR1.hx (by decide) (by decide) hpt (by decide) (by decide) hb'.O).mono ?_
 rintro e W2 ⟨hst,⟨h5,rfl,hG2,hx2⟩|⟨h5,rfl,cs',hcs,hx2⟩⟩
 ·have hR2:=hR1.act hst (λk hk=>by omega) hx2
  clear hR1 hG1 hpt hst hx2;obtain⟨a,b,c,d,e,r,rfl⟩:=jgq h5;have jca:=ah (show RdB w (pz (a::b::c::d::e::r)) [.int .i64 a,.int .i64 b,.int .i64 c,.int .i64 d,.int .i64 e,.slice none 0 0] W2 from hR2)
  have joe:iV W2 (w.heap.size+1+1+1+1) 176 [.string (pz r)]:=hG2;clear hR2 hG2 h5;go_wp2_with fail;rcases r with _|⟨n,q⟩
  ·refine(VU W2 joe).mono ?_
   rintro e2 W3 ⟨rfl,rfl⟩;go_wp2_with fail;refine xP (f:=144) (args:=#[.pointer (some ⟨w.heap.size,0,none⟩),.pointer (some ⟨w.heap.size+1,0,none⟩),.pointer (some ⟨w.heap.size+1+1,0,none⟩),.pointer (some ⟨w.heap.size+1+1+1,0,none⟩)]) (by simp) (by simp[go_sem]) ?_
   refine(Q7 _ (jca.O).hs (jca.O).hx rfl (jca.O).hr (jca.O).hi 181 (.agg #[]) []).mono ?_
   rintro e u' w9 ⟨rfl,rfl,uO,hr9,hi9,wJ⟩;have a0:=uO.cell (j:=0) rfl;have a1:=uO.cell (j:=1) rfl;have a2:=uO.cell (j:=2) rfl;have a3:=uO.cell (j:=3) rfl;have a4:=uO.cell (j:=4) rfl;have a5:=uO.cell (j:=5) rfl;have b0:=hr9.cell (j:=0) rfl;have i0:=hi9.cell (j:=0) rfl;have bK:Ls [a,b,c,d,e] w (.returned (.tuple #[.agg #[.int .i64 0,.int .i64 0,.int .i64 0,.int .i64 0,.int .i64 0,.slice none 0 0],.string (pz [a,b,c,d,e]),.bool false])) w9:=
    ⟨(jca.O).below.trans (wJ.below (B:=w.heap.size) (λk hk=>by omega) (jca.O).below.size),.inl ⟨rfl,rfl⟩⟩
   have Hg:=ah bK;clear bK uO hr9 hi9 wJ;simp[Leaves,settle,results,results85,go_sem,a0,a1,a2,a3,a4,a5,b0,i0]
   exact Hg.O
  ·have hn:n<256:=hb'.O n (by simp)
   refine(jlY W2 joe hn).mono ?_
   rintro e2 W3 ⟨rfl,hG3,hgr⟩;have hR3:=ah (jca.O.off (Step.jR (ks:=(·=w.heap.size+1+1+1+1)) hgr (λk hk=>by injection hk with hk;exact hk.symm)) (λk hk=>by omega))
   clear jca joe hgr;by_cases h3:3<n
   ·have h3i:(3:Int)<(n:Int):=by omega
    have hz:oz (a::b::c::d::e::n::q)=0:=by
     unfold oz;rw[ay (by simp),aB (.inl (show 3<n from h3))]
    have hz':=ah hz;clear hz h3;go_wp2_with fail;refine xP (f:=144) (args:=#[.pointer (some ⟨w.heap.size,0,none⟩),.pointer (some ⟨w.heap.size+1,0,none⟩),.pointer (some ⟨w.heap.size+1+1,0,none⟩),.pointer (some ⟨w.heap.size+1+1+1,0,none⟩)]) (by simp) (by simp[go_sem]) ?_
    refine(Q7 _ (hR3.O).hs (hR3.O).hx rfl (hR3.O).hr (hR3.O).hi 181 (.agg #[]) []).mono ?_
    rintro e u' w9 ⟨rfl,rfl,uO,hr9,hi9,wJ⟩;have a0:=uO.cell (j:=0) rfl;have a1:=uO.cell (j:=1) rfl;have a2:=uO.cell (j:=2) rfl;have a3:=uO.cell (j:=3) rfl;have a4:=uO.cell (j:=4) rfl;have a5:=uO.cell (j:=5) rfl;have b0:=hr9.cell (j:=0) rfl;have i0:=hi9.cell (j:=0) rfl;have bK:Ls (a::b::c::d::e::n::q) w (.returned (.tuple #[.agg #[.int .i64 0,.int .i64 0,.int .i64 0,.int .i64 0,.int .i64 0,.slice none 0 0],.string (pz (a::b::c::d::e::n::q)),.bool false])) w9:=
     ⟨(hR3.O).below.trans (wJ.below (B:=w.heap.size) (λk hk=>by omega) (hR3.O).below.size),.inl ⟨hz'.O,rfl⟩⟩
    have Hg:=ah bK;clear bK uO hr9 hi9 wJ;simp[Leaves,settle,results,results85,go_sem,a0,a1,a2,a3,a4,a5,b0,i0]
    exact Hg.O
   ·have h3i:¬(3:Int)<(n:Int):=by omega
    have jr3:=ah hG3;clear hG3 h3;go_wp2_with fail;go_loopw[27,7] (λi _ wr=>∃(k:Nat) (vl:Value),k<=n/\4*k<=q.length/\i=.int .i64 k/\RdB w (pz (a::b::c::d::e::n::q)) [.int .i64 a,.int .i64 b,.int .i64 c,.int .i64 d,.int .i64 e,vl] wr/\iV wr (w.heap.size+1+1+1+1) 176 [.string (pz (q.drop (4*k)))]/\Own kP 4 44 wr w.heap.size vl (ql q k)) (λi _ _=>n - (RowKit.intOf i).toNat)
    case atStart=>exact⟨0,_,aK _,aK _,rfl,hR3.O,jr3.O,Own.nil⟩
    case round=>
     clear hR3 jr3;obtain⟨k,vl,hk,hkq,rfl,hR,hG,hO⟩:=hrel;have hR':=ah hR;have hG':=ah hG;have hO':=ah hO;have hsz:=hR.hi.lt;have hgl:=hG.lt;have hbel:=hR.below.size;clear hR hG hO;by_cases hlt:k<n
     ·have hki:(k:Int)<(n:Int):=by omega
      go_wp2_with fail;have hb1:Below wr.heap.size wr ((wr.alloc (.cells #[.int .i64 0,.int .i64 0,.int .i64 0,.int .i64 0] 44)).alloc (.cells #[.pointer (some ⟨wr.heap.size,0,none⟩),.pointer (some ⟨wr.heap.size,1,none⟩),.pointer (some ⟨wr.heap.size,2,none⟩),.pointer (some ⟨wr.heap.size,3,none⟩)] 178)):=((aj _ _).alloc (au _) _).alloc (by simp) _
      have htb:iV ((wr.alloc (.cells #[.int .i64 0,.int .i64 0,.int .i64 0,.int .i64 0] 44)).alloc (.cells #[.pointer (some ⟨wr.heap.size,0,none⟩),.pointer (some ⟨wr.heap.size,1,none⟩),.pointer (some ⟨wr.heap.size,2,none⟩),.pointer (some ⟨wr.heap.size,3,none⟩)] 178)) wr.heap.size 44 [.int .i64 0,.int .i64 0,.int .i64 0,.int .i64 0]:=(iV.new wr 44 #[.int .i64 0,.int .i64 0,.int .i64 0,.int .i64 0]).alloc _;have hpt:iV ((wr.alloc (.cells #[.int .i64 0,.int .i64 0,.int .i64 0,.int .i64 0] 44)).alloc (.cells #[.pointer (some ⟨wr.heap.size,0,none⟩),.pointer (some ⟨wr.heap.size,1,none⟩),.pointer (some ⟨wr.heap.size,2,none⟩),.pointer (some ⟨wr.heap.size,3,none⟩)] 178)) (wr.heap.size+1) 178 ((List.range 4).map λi=>Value.pointer (some ⟨wr.heap.size,i,none⟩)):=by
       have h:=iV.new (wr.alloc (.cells #[.int .i64 0,.int .i64 0,.int .i64 0,.int .i64 0] 44)) 178 #[.pointer (some ⟨wr.heap.size,0,none⟩),.pointer (some ⟨wr.heap.size,1,none⟩),.pointer (some ⟨wr.heap.size,2,none⟩),.pointer (some ⟨wr.heap.size,3,none⟩)];rw[cO]at h
       exact h
      generalize (wr.alloc (.cells #[.int .i64 0,.int .i64 0,.int .i64 0,.int .i64 0] 44)).alloc (.cells #[.pointer (some ⟨wr.heap.size,0,none⟩),.pointer (some ⟨wr.heap.size,1,none⟩),.pointer (some ⟨wr.heap.size,2,none⟩),.pointer (some ⟨wr.heap.size,3,none⟩)] 178)=W4 at hb1 htb hpt ⊢
      refine(jhP W4 (m:=4) (hG'.O.below hb1 hgl) htb (by decide) (by decide) hpt (by decide) (by decide) (λx hx=>hb'.O x (by
       have:=tu hx;simp[this]))).mono ?_
      rintro e3 W5 ⟨hst,⟨h4,rfl,hG5,ht5⟩|⟨h4,rfl,cs',hcs,ht5⟩⟩
      ·obtain⟨a',b',c',d',r',hq⟩:=jgn h4;rw[hq]at hG5 ht5
       have hR5:=ah ((hR'.O.up hb1).off hst (λk hk=>by omega))
       have hO5:=ah ((hO'.O.below hb1).step hst (λk hk hh=>by
        rcases hh with rfl|rfl
        ·rcases Own.mQ hO'.O hG'.O (by decide)with hn|hn
         ·rw[hn]at hk;cases hk
         ·exact hn hk
        ·have:=(hO'.O.size _ hk).2;omega))
       have jh9:iV W5 wr.heap.size 44 [.int .i64 a',.int .i64 b',.int .i64 c',.int .i64 d']:=ht5;have jr2:=ah (show iV W5 (w.heap.size+1+1+1+1) 176 [.string (pz (q.drop (4*(k+1))))]by
        have e:q.drop (4*(k+1))=r':=by
         rw[show 4*(k+1)=4*k+4 by omega,<- rW,hq]
         rfl
        rw[e];exact hG5)
       have hln:=ah (ZO hq);have hll:(ql q k).length<=1000000:=by
        have:∀(m:Nat) (t:List Nat),(ql t m).length=m:=λm=>by
         induction m with
         |zero=>intro t;rfl
         |succ m ih=>intro t;rw[ql,dw,ih]
        rw[this];omega
       have hq5:4*(k+1)<=q.length:=by rw[fQ]at h4;omega
       have hbase5:w.heap.size<=W5.heap.size:=hR5.O.below.size;have x5:=hR5.O.hx.cell (j:=5) rfl;have lx5:=hR5.O.hx.lt;have t0:=jh9.cell (j:=0) rfl;have t1:=jh9.cell (j:=1) rfl;have t2:=jh9.cell (j:=2) rfl;have t3:=jh9.cell (j:=3) rfl;clear hb1 htb hpt hst hG5 ht5 jh9 hR' hG' hO' h4 hq;go_wp2_with (refine lS _ rfl (.tmp 37) (.tmp 39) 32 44 rfl w.heap.size _ 4 32 underlying32 NR rfl (by decide) (by decide) vl (ql q k) ⟨a',b',c',d'⟩ rfl (hO5.O.alloc _) ⟨W5.heap.size,0,none⟩ 1 rfl rfl (uF _ _ _) (ZK _) hll (by rw[cO];omega) (λv9 w9 E8 je Np Hq=>?_);refine aW ?_)
       unfold Hid;obtain⟨A9,c9,jbN⟩:=E8.isSlice;obtain⟨n9,hn9⟩:∃n9,(ql q k++[(⟨a',b',c',d'⟩:Line)]).length=n9:=⟨_,rfl⟩;rw[hn9]at jbN
       subst jbN;clear hn9 Np Hq;have hRa:=hR5.O.up ((aj W5.heap.size W5).alloc (au _) (.cells #[.int .i64 a',.int .i64 b',.int .i64 c',.int .i64 d'] 44));have hOa:=hO5.O.alloc (.cells #[.int .i64 a',.int .i64 b',.int .i64 c',.int .i64 d'] 44);have hGa:=jr2.O.alloc (.cells #[.int .i64 a',.int .i64 b',.int .i64 c',.int .i64 d'] 44);have hR9:=ah (hRa.grown hOa (au _) je);have hG9:=hGa.grown je (by
        rcases Own.mQ hOa hGa (by decide)with hn|hn
        ·rw[hn];intro he;cases he
        ·exact λhe=>hn he.symm)
       rw[<- hln.O]at E8
       have y5:=hR9.O.hx.cell (j:=5) rfl;have z5:=hR9.O.hx.frozen 5;have ly5:=hR9.O.hx.lt;clear hRa hOa hGa je x5 lx5 t0 t1 t2 t3 hR5 hO5 jr2;go_wp2_with fail;obtain⟨jrN,Cb⟩:=hR9.O.jmG 5 (.slice A9 n9 c9);have jjd:=ah (E8.kept Cb (Own.mQ E8 hR9.O.hx (by decide)))
       have jum:=ah (hG9.grown Cb (by intro he;injection he with he;omega))
       have jrM:=ah (show RdB w (pz (a::b::c::d::e::n::q)) [.int .i64 a,.int .i64 b,.int .i64 c,.int .i64 d,.int .i64 e,.slice A9 n9 c9] _ from jrN)
       clear jrN Cb E8 hG9 hR9 y5 z5 ly5;go_roundw
       case rel=>exact⟨k+1,_,by omega,hq5,by go_num,jrM.O,jum.O,jjd.O⟩
       case measure=>simp[RowKit.intOf];omega
      ·have hR5:=ah ((hR'.O.up hb1).off hst (λk hk=>by omega))
       have hz:oz (a::b::c::d::e::n::q)=0:=by
        have h5:dI (a::b::c::d::e::n::q) 5=n:=rfl;rw[fQ]at h4
        unfold oz;rw[h5,ay (by simp),aB (.inr (by simp only[dw];omega))]
       have hz':=ah hz;clear hR' hG' hO' hb1 htb hpt hst ht5 hz h4;go_wp2_with fail;refine xP (f:=144) (args:=#[.pointer (some ⟨w.heap.size,0,none⟩),.pointer (some ⟨w.heap.size+1,0,none⟩),.pointer (some ⟨w.heap.size+1+1,0,none⟩),.pointer (some ⟨w.heap.size+1+1+1,0,none⟩)]) (by simp) (by simp[go_sem]) ?_
       refine(Q7 _ (hR5.O).hs (hR5.O).hx rfl (hR5.O).hr (hR5.O).hi 181 (.agg #[]) []).mono ?_
       rintro e u' w9 ⟨rfl,rfl,uO,hr9,hi9,wJ⟩;have a0:=uO.cell (j:=0) rfl;have a1:=uO.cell (j:=1) rfl;have a2:=uO.cell (j:=2) rfl;have a3:=uO.cell (j:=3) rfl;have a4:=uO.cell (j:=4) rfl;have a5:=uO.cell (j:=5) rfl;have b0:=hr9.cell (j:=0) rfl;have i0:=hi9.cell (j:=0) rfl;have bK:Ls (a::b::c::d::e::n::q) w (.returned (.tuple #[.agg #[.int .i64 0,.int .i64 0,.int .i64 0,.int .i64 0,.int .i64 0,.slice none 0 0],.string (pz (a::b::c::d::e::n::q)),.bool false])) w9:=
        ⟨(hR5.O).below.trans (wJ.below (B:=w.heap.size) (λk hk=>by omega) (hR5.O).below.size),.inl ⟨hz'.O,rfl⟩⟩
       have Hg:=ah bK;clear bK uO hr9 hi9 wJ;simp[Leaves,settle,results,results85,go_sem,a0,a1,a2,a3,a4,a5,b0,i0]
       exact Hg.O
     ·obtain rfl:k=n:=by omega
      have h5:dI (a::b::c::d::e::k::q) 5=k:=rfl;have hac:oz (a::b::c::d::e::k::q)=6+4*k:=by
       unfold oz;rw[h5,ay (by simp),ay (by simp only[dw];omega)]
      have hdr:List.drop (6+4*k) (a::b::c::d::e::k::q)=q.drop (4*k):=by
       rw[Nat.add_comm];rfl
      have jn6:=ah hac;have hdr':=ah hdr;clear h5 hac hdr hlt;obtain⟨A9,c9,jbN⟩:=hO'.O.isSlice;obtain⟨n9,hn9⟩:∃n9,(ql q k).length=n9:=⟨_,rfl⟩;rw[hn9]at jbN
      subst jbN;have x0:=hR'.O.hx.cell (j:=0) rfl;have x1:=hR'.O.hx.cell (j:=1) rfl;have x2:=hR'.O.hx.cell (j:=2) rfl;have x3:=hR'.O.hx.cell (j:=3) rfl;have x4:=hR'.O.hx.cell (j:=4) rfl;have x5:=hR'.O.hx.cell (j:=5) rfl;have g0:=hG'.O.cell (j:=0) rfl;clear hn9;go_wp2_with fail;go_still_tail 5,(by kernel_rfl)
      change wpList _ _ _ _ _ wr.drew;have hRd:=hR'.O.up (aj wr.heap.size wr).drew;have hOd:Own kP 4 44 wr.drew w.heap.size (.slice A9 n9 c9) (ql q k):=hO'.O.below (aj _ _).drew;refine oI rfl 34 (.tmp 2) (.tmp 43) rfl (w.heap.size+1) #[.int .i64 a,.int .i64 b,.int .i64 c,.int .i64 d,.int .i64 e,.slice A9 n9 c9] rfl rfl 34 _ hRd.hx (by kernel_rfl) rfl (by simp[Value.oneCell']) ?_
      have hg1:=yU wr.drew (w.heap.size+1) #[.int .i64 a,.int .i64 b,.int .i64 c,.int .i64 d,.int .i64 e,.slice A9 n9 c9];have hR1:=hRd.act (Step.jR (ks:=(·=w.heap.size+1)) hg1 (λj hj=>by injection hj with hj;exact hj.symm)) (λj hj=>.inl hj) (hRd.hx.row [.int .i64 a,.int .i64 b,.int .i64 c,.int .i64 d,.int .i64 e,.slice A9 n9 c9])
      have hO1:=hOd.kept hg1 (Own.mQ hOd hRd.hx (by decide))
      generalize wr.drew.setRow (w.heap.size+1) #[.int .i64 a,.int .i64 b,.int .i64 c,.int .i64 d,.int .i64 e,.slice A9 n9 c9]=w1 at hg1 hR1 hO1 ⊢
      clear x0 x1 x2 x3 x4 x5 g0 hRd hOd hg1 hR' hG' hO';have jej:=ah hR1;have joa:=ah hO1;have r0:=hR1.hr.cell (j:=0) rfl;have rf:=hR1.hr.frozen 0;have i0:=hR1.hi.cell (j:=0) rfl;have if0:=hR1.hi.frozen 0;clear hR1 hO1;go_wp2_with fail;refine xP (f:=144) (args:=#[.pointer (some ⟨w.heap.size,0,none⟩),.pointer (some ⟨w.heap.size+1,0,none⟩),.pointer (some ⟨w.heap.size+1+1,0,none⟩),.pointer (some ⟨w.heap.size+1+1+1,0,none⟩)]) (by simp) (by simp[go_sem]) ?_
      refine(jmM _ _ _ _ _).mono ?_
      rintro e3 u' w9 ⟨rfl,rfl,rfl⟩;clear r0 rf i0 if0;obtain⟨hr2,hg2⟩:=xA jej.O.hr 0 (.string (pz (q.drop (4*k))));have hx2:=jej.O.hx.grown hg2 (by intro he;injection he with he;omega)
      have hi2:=jej.O.hi.grown hg2 (by intro he;injection he with he;omega)
      have hO2:=joa.O.kept hg2 (Own.mQ joa.O jej.O.hr (by decide))
      have hb2:=jej.O.below.grown hg2 jej.O.below.size (λj hj=>by injection hj with hj;omega)
      obtain⟨hi3,hg3⟩:=xA hi2 0 (.bool true);have hx3:=hx2.grown hg3 (by intro he;injection he with he;omega)
      have hr3:=hr2.grown hg3 (by intro he;injection he with he;omega)
      have hO3:=hO2.kept hg3 (Own.mQ hO2 hi2 (by decide))
      have hb3:=hb2.grown hg3 hb2.size (λj hj=>by injection hj with hj;omega)
      generalize (w1.setCell ⟨w.heap.size+1+1,0,none⟩ (.string (pz (q.drop (4*k))))).setCell ⟨w.heap.size+1+1+1,0,none⟩ (.bool true)=wF at hi3 hx3 hr3 hO3 hb3 ⊢
      have a0:=hx3.cell (j:=0) rfl;have a1:=hx3.cell (j:=1) rfl;have a2:=hx3.cell (j:=2) rfl;have a3:=hx3.cell (j:=3) rfl;have a4:=hx3.cell (j:=4) rfl;have a5:=hx3.cell (j:=5) rfl;have b0:=hr3.cell (j:=0) rfl;have i0:=hi3.cell (j:=0) rfl;have bK:Ls (a::b::c::d::e::k::q) w (.returned (.tuple #[.agg #[.int .i64 a,.int .i64 b,.int .i64 c,.int .i64 d,.int .i64 e,.slice A9 n9 c9],.string (pz (q.drop (4*k))),.bool true])) wF:=
       ⟨hb3,.inr ⟨by rw[jn6.O];omega,_,by rw[jn6.O,hdr'.O];rfl,hO3⟩⟩
      have Hg:=ah bK;clear bK hi3 hx3 hr3 hO3 hb3 hx2 hi2 hr2 hO2 hb2 hg2 hg3 jej joa jn6 hdr';simp[Leaves,settle,results,results85,go_sem,a0,a1,a2,a3,a4,a5,b0,i0]
      exact Hg.O
 ·have hR2:=ah (hR1.act hst (λk hk=>by omega) hx2)
  have hz:oz l=0:=by unfold oz;rw[aB (by omega)]
  have hz':=ah hz;clear hR1 hG1 hpt hst hx2 hz h5;go_wp2_with fail;refine xP (f:=144) (args:=#[.pointer (some ⟨w.heap.size,0,none⟩),.pointer (some ⟨w.heap.size+1,0,none⟩),.pointer (some ⟨w.heap.size+1+1,0,none⟩),.pointer (some ⟨w.heap.size+1+1+1,0,none⟩)]) (by simp) (by simp[go_sem]) ?_
  refine(Q7 _ (hR2.O).hs (hR2.O).hx hcs (hR2.O).hr (hR2.O).hi 181 (.agg #[]) []).mono ?_
  rintro e u' w9 ⟨rfl,rfl,uO,hr9,hi9,wJ⟩;have a0:=uO.cell (j:=0) rfl;have a1:=uO.cell (j:=1) rfl;have a2:=uO.cell (j:=2) rfl;have a3:=uO.cell (j:=3) rfl;have a4:=uO.cell (j:=4) rfl;have a5:=uO.cell (j:=5) rfl;have b0:=hr9.cell (j:=0) rfl;have i0:=hi9.cell (j:=0) rfl;have bK:Ls l w (.returned (.tuple #[.agg #[.int .i64 0,.int .i64 0,.int .i64 0,.int .i64 0,.int .i64 0,.slice none 0 0],.string (pz l),.bool false])) w9:=
   ⟨(hR2.O).below.trans (wJ.below (B:=w.heap.size) (λk hk=>by omega) (hR2.O).below.size),.inl ⟨hz'.O,rfl⟩⟩
  have Hg:=ah bK;clear bK uO hr9 hi9 wJ;simp[Leaves,settle,results,results85,go_sem,a0,a1,a2,a3,a4,a5,b0,i0]
  exact Hg.O
end Wh
namespace Wh
open Go Go.RowKit Go.Shelf Go.Proofs Tryz
attribute [local go_sem] aT jW jm kC
def jjI(x:yK×Value):List Value:=[.int .i64 x.1.dW,.int .i64 x.1.a,.int .i64 x.1.b,.int .i64 x.1.c,.int .i64 x.1.n,x.2]
theorem jfd:Elem prog 34 (.agg #[.int .i64 0,.int .i64 0,.int .i64 0,.int .i64 0,.int .i64 0,.slice none 0 0]) 6 64:=Iu (by kernel_rfl)
theorem Xj(w:World)(cs:Array Value)(e:TypeId):∀j u,cs.toList[j]?=some u->((w.alloc (.cells cs e)).alloc (.cells cs e)).cell? ((⟨w.heap.size+1,0,none⟩:Addr).add j)=some u:=λj u hj=>by
 have h:=uF (w.alloc (.cells cs e)) cs e j u hj;rw[cO]at h
 exact h
def zD(w:World)(aO:Nat)(v:Value)(l:List yK):Prop:=∃ps:List (yK×Value),ps.map (·.1)=l/\Own jjI 6 34 w aO v ps/\∀x∈ps,Own kP 4 44 w aO x.2 x.1.aH
theorem zD.below{w w':World}{aO:Nat}{v:Value}{l:List yK}(h:zD w aO v l)(hb:Below w.heap.size w w'):zD w' aO v l:=by
 obtain⟨ps,h1,h2,h3⟩:=h;exact⟨ps,h1,h2.below hb,λx hx=>(h3 x hx).below hb⟩
theorem zD.nil{w:World}{aO:Nat}:zD w aO (.slice none 0 0) []:=⟨[],rfl,Own.nil,λx hx=>by cases hx⟩
theorem zD.isSlice{w:World}{aO:Nat}{v:Value}{l:List yK}(h:zD w aO v l):∃A c,v=.slice A l.length c:=by
 obtain⟨ps,h1,h2,h3⟩:=h;obtain⟨A,c,e⟩:=h2.isSlice;exact⟨A,c,by rw[e,<- h1,fU]⟩
theorem zD.from_{w:World}{aO base':Nat}{v:Value}{l:List yK}(h:zD w aO v l)(hb:base'<=aO):zD w base' v l:=by
 obtain⟨ps,h1,h2,h3⟩:=h;exact⟨ps,h1,h2.from_ hb,λx hx=>(h3 x hx).from_ hb⟩
theorem GZ{n:Nat}{t:List Nat}(h:n=0\/oz t=0):rE n t=([],0):=by
 rcases n with _|n
 ·rfl
 ·rw[rE,aB (by omega)]
theorem NG{n:Nat}{t:List Nat}(h:oz t≠0):rE (n+1) t=(yI t::(rE n (t.drop (oz t))).1,oz t+(rE n (t.drop (oz t))).2):=by
 rw[rE,ay h]
theorem jby(w:World)(t:List Nat)(hb:∀n∈t,n<256):Calls prog 30 #[.string (pz t)] w λe w'=>
  ∃v,e=.returned (.tuple #[v,.int .i64 (qj t).2.1,.int .i64 (qj t).2.2])/\zD w' w.heap.size v (qj t).1/\Below w.heap.size w w':=by
 have hb':=ah hb;have hsz:=Gy t;clear hb;go_enter func30,ntmps30
 by_cases hlong:4096<t.length
 ·have hli:(4096:Int)<(t.length:Int):=by omega
  have bK:=ah (show qj t=([],0,2)by unfold qj;rw[aB hlong])
  clear hlong;go_wp2_with fail;exact fD (v:=.tuple #[.slice none 0 0,.int .i64 0,.int .i64 2]) (by simp[results,results30,go_sem]) rfl ⟨_,by rw[bK.O],by rw[bK.O];exact zD.nil,aj _ _⟩
 ·have hli:¬(4096:Int)<(t.length:Int):=by omega
  have bK:=ah (show qj t=((rE 60 t).1,((rE 60 t).2:Int),0)by unfold qj;rw[ay hlong])
  go_wp2_with fail;go_loopg[5,6] 60 (λgk lv sv wr=>∃(done:List yK) (rem:List Nat),gk=60 - done.length/\done.length<=60/\sv=.string (pz rem)/\zD wr w.heap.size lv done/\rem.length<=t.length/\(∀n∈rem,n<256)/\
   rE 60 t=(done++(rE (60 - done.length) rem).1,(t.length - rem.length)+(rE (60 - done.length) rem).2)/\Below w.heap.size w wr)
  case atStart=>exact⟨[],t,rfl,by simp,rfl,zD.nil,au _,hb'.O,by simp,aj _ _⟩
  case round=>
   obtain⟨done,rem,hgk,hd,rfl,hA,hrl,hrb,heq,hB⟩:=hrel;obtain⟨Al,cl,rfl⟩:=hA.isSlice;have heq':=ah heq;have hA':=ah hA;have jkO:=ah hrb;have jac:=ah hgk;have hsr:=Gy rem;have hw1:IntKind.i64.wrap ((t.length:Int) - (rem.length:Int))=(t.length:Int) - (rem.length:Int):=aN _ (by omega)
   clear heq hA hrb hgk;by_cases h60:done.length<60
   ·have h6i:(done.length:Int)<60:=by omega
    go_wp2_with fail;refine(jm1 wr rem jkO.O).mono ?_
    rintro e W1 ⟨h1,⟨hz,rfl⟩|⟨hnz,vl,rfl,hO⟩⟩
    ·have hA1:=ah (hA'.O.below h1);have hB1:=hB.trans (h1.mono hB.size);have hz':=ah hz;have hA2:=ah (hA1.O.below ((aj W1.heap.size W1).alloc (au _) (.cells #[.int .i64 0,.int .i64 0,.int .i64 0,.int .i64 0,.int .i64 0,.slice none 0 0] 34)));have hB2:=hB1.alloc hB1.size (.cells #[.int .i64 0,.int .i64 0,.int .i64 0,.int .i64 0,.int .i64 0,.slice none 0 0] 34);clear hA' hz h1;have hq:rE 60 t=(done,t.length - rem.length):=by
      rw[heq'.O,GZ (.inr hz'.O)];simp
     have hf1:=ah (show qj t=(done,((t.length:Int) - (rem.length:Int)),0)by
      rw[bK.O,hq];simp only[sQ,mD,mg];omega)
     clear hq;go_wp2_with fail;exact fD (v:=.tuple #[.slice Al done.length cl,.int .i64 ((t.length:Int) - (rem.length:Int)),.int .i64 0]) (by simp[results,results30,go_sem]) rfl ⟨_,by rw[hf1.O],by rw[hf1.O];exact hA2.O,hB2⟩
    ·obtain⟨A2,c2,hvl⟩:=hO.isSlice;obtain⟨n2,hn2⟩:∃n2,(yI rem).aH.length=n2:=⟨_,rfl⟩;rw[hn2]at hvl
     subst hvl;obtain⟨x,hx⟩:∃x,yI rem=x:=⟨_,rfl⟩;obtain⟨Ut,PY⟩:∃Ut,rem.drop (oz rem)=Ut:=⟨_,rfl⟩;have hle:=Tz rem;have hl2:Ut.length<=t.length:=by rw[<- PY,fQ];omega
     have jtk:=ah (show ∀n∈Ut,n<256 from λn hn=>jkO.O n (by rw[<- PY]at hn;exact tu hn))
     have heq2:=ah (show rE 60 t=((done++[x])++(rE (60 - (done++[x]).length) Ut).1,(t.length - Ut.length)+(rE (60 - (done++[x]).length) Ut).2)by
      have e1:60 - done.length=(60 - (done++[x]).length)+1:=by rw[aZ];simp only[dw,dY];omega
      rw[heq'.O,e1,NG hnz,hx,PY,eH,Bg];simp only[sQ,mg];rw[<- PY,fQ];omega)
     rw[hx,PY];rw[hx]at hO
     have hA1:=ah (hA'.O.below h1);have hB1:=hB.trans (h1.mono hB.size);have hO1:=ah (hO.from_ hB.size);clear hx PY hn2 hO h1 hA' hnz hle;obtain⟨ps,hps,lC,hlin⟩:=hA1.O;have hown':=ah lC;have jbX:=ah hlin;have jii:=ah hps;have hpl:ps.length<=1000000:=by have:=kX List.length hps;rw[fU]at this;omega
     have hbs:=hB1.size;have hpe:ps.length=done.length:=by rw[<- hps,fU]
     clear lC hlin hps hpe;go_wp2_with (refine lS _ rfl (.tmp 25) (.tmp 27) 63 34 rfl w.heap.size _ 6 64 underlying63 jfd rfl (by decide) (by decide) (.slice Al done.length cl) ps (x,.slice A2 n2 c2) rfl ((hown'.O.alloc _).alloc _) ⟨W1.heap.size+1,0,none⟩ 1 rfl rfl (Xj _ _ _) (by simp[jjI,Value.oneCell']) hpl (by rw[cO,cO];omega) (λv9 w9 E8 je Np Hq=>?_);refine aW ?_)
     unfold Hid;have hb2:Below W1.heap.size W1 ((W1.alloc (.cells #[.int .i64 x.dW,.int .i64 x.a,.int .i64 x.b,.int .i64 x.c,.int .i64 x.n,.slice A2 n2 c2] 34)).alloc (.cells #[.int .i64 x.dW,.int .i64 x.a,.int .i64 x.b,.int .i64 x.c,.int .i64 x.n,.slice A2 n2 c2] 34)):=((aj _ _).alloc (au _) _).alloc (by simp) _
     have hA9:=ah (show zD w9 w.heap.size v9 (done++[x])from⟨ps++[(x,.slice A2 n2 c2)],by rw[fJ,jii.O];rfl,E8,λy hy=>by
      have hy1:Own kP 4 44 W1 w.heap.size y.2 y.1.aH:=by
       rcases jT.1 hy with h|h
       ·exact jbX.O y h
       ·rw[iP]at h
        subst h;exact hO1.O
      exact(hy1.below hb2).kept je (Own.apart (hy1.below hb2) (hown'.O.below hb2) (by decide))⟩)
     have LD:=hB1.trans (hb2.mono hB1.size)|>.trans Hq
     clear E8 je Np Hq hb2 hown' jbX jii hA1 hO1 hB1;go_wp2_with fail;go_roundg (60 - (done++[x]).length)
     case rel=>exact⟨done++[x],Ut,rfl,by rw[aZ];simp only[dw,dY];omega,rfl,hA9.O,hl2,jtk.O,heq2.O,LD⟩
     case measure=>rw[jac.O,aZ];simp only[dw,dY];omega
   ·have h6i:¬(done.length:Int)<60:=by omega
    have joj:60 - done.length=0:=by omega
    have hq:rE 60 t=(done,t.length - rem.length):=by
     rw[heq'.O,GZ (.inl joj)];simp
    have hf1:=ah (show qj t=(done,((t.length:Int) - (rem.length:Int)),0)by
     rw[bK.O,hq];simp only[sQ,mD,mg];omega)
    clear hq;go_wp2_with fail;exact fD (v:=.tuple #[.slice Al done.length cl,.int .i64 ((t.length:Int) - (rem.length:Int)),.int .i64 0]) (by simp[results,results30,go_sem]) rfl ⟨_,by rw[hf1.O],by rw[hf1.O];exact hA'.O,hB⟩
end Wh
