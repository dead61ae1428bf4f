/- Texts of the claim, joined. -/
import Derived.Deep.RegionLaw
import Derived.Deep.RegionHeld3
import Derived.Test.YtfhfkijmebhgmaaGreatK08
set_option maxHeartbeats 20000000
set_option maxRecDepth 100000
namespace Wh
open Go Go.RowKit Go.Shelf Go.Proofs Tryz
attribute [local go_sem] aT
theorem WX{α:Type}(enc:α->List Value)(l:List α)(k:Nat):(l.eraseIdx k).flatMap enc=(l.take k).flatMap enc++(l.drop (k+1)).flatMap enc:=by
 rw[nT,gy]
theorem yc:Elem prog 46 (.agg #[.int .i64 0,.int .i64 0,.int .i64 0,.int .i64 0]) 4 32:=Iu (by kernel_rfl)
theorem zu(x:dZ):∀u∈ig x,u.oneCell'=true:=by simp[ig,Value.oneCell']
theorem Lj(w:World)(v:Value)(l:List dZ)(hv:Sl ig w w.heap.size v l)(hn:l.length<=1000000):
  Calls prog 111 #[v] w (Gives (λu w'=>Own ig 4 46 w' w.heap.size u l) w):=by
 obtain⟨A,c,rfl,hl,hA⟩:=hv;have qT:∀(w:World) (a:Option Addr) (n c n' c':Nat),(binOp .eql 28 (.slice a n c) (.slice none n' c')).run prog w=.ok (.bool a.isNone) w:=λw a n c n' c'=>Lib.run_eql_slice_nil w _ _ a n c n' c' underlying28
 cases A with
 |none=>
  have h0:l=[]:=by
   cases l with
   |nil=>rfl
   |cons x r=>exact absurd (hA.ok (by simp[ig])) (by rintro⟨b,off,h⟩;cases h)
  subst h0;go_enter func111,ntmps111
  go_wp2_with (at_builtin;refine aW ?_)
  go_ret
  exact⟨_,rfl,Own.nil,aj _ _⟩
 |some ad=>
  go_enter func111,ntmps111
  go_wp2_with (at_builtin;refine aW ?_)
  unfold Hid;refine IV _ rfl (.tmp 5) (.tmp 6) 28 46 rfl w.heap.size _ 4 32 underlying28 yc rfl (by decide) (by decide) (.slice (some ⟨w.heap.size,0,none⟩) 0 0) ([]:List dZ) l rfl (Own.VQ w _ (au _)) (some ad) c w.heap.size rfl (λ_=>rfl)
   (hA.up ((aj _ _).alloc (au _) _) (au _)) (λy=>zu y) (by simpa using hn) (by simp) ?_
  intro v1 w1 yj hg1 jb7 FC;go_wp2_with fail;go_ret
  exact⟨_,rfl,by simpa using yj,((aj _ _).alloc (au _) _).trans FC⟩
theorem jaO(w:World):(zeroValue 46).run prog w=.ok (.agg #[.int .i64 0,.int .i64 0,.int .i64 0,.int .i64 0]) w:=by kernel_rfl
theorem jls(w:World)(aO:Nat)(v:Value)(l:List dZ)(k:Nat)(lC:Own ig 4 46 w aO v l)(hk:k<l.length)(hn:l.length<=1000000):
  Calls prog 155 #[v,.int .i64 k,.int .i64 ((k:Int)+1)] w λe w'=>
   ∃v',e=.returned v'/\Own ig 4 46 w' aO v' (l.eraseIdx k)/\w.grownBy w' v.ownBlock/\v'.ownBlock=v.ownBlock:=by
 obtain⟨g,cap,cur,rfl,hbg,hg,hlc,hcm,hcs,htake⟩:=lC.row (by omega)
 obtain⟨i0,hi0,hz0,lg,jiQ⟩:=yc;have hk4:∀x,(ig x).length=4:=λ_=>rfl
 obtain⟨cs,WC⟩:∃cs,cs=(l.drop (k+1)).flatMap ig:=⟨_,rfl⟩;have hcl:cs.length=(l.length - (k+1))*4:=by rw[WC,kL ig 4 hk4,fQ]
 have hc1:∀u∈cs,u.oneCell'=true:=λu hu=>by
  rw[WC]at hu
  obtain⟨y,_,hy⟩:=oL.1 hu;exact zu y u hy
 obtain⟨A,hA,hsrc⟩:∃A:Addr,(if cap=k+1 then some (⟨g,0,none⟩:Addr)else some ⟨g,(k+1)*4,none⟩)=some A/\Hid (∀j u,cs[j]?=some u->w.drew.cell? (A.add j)=some u):=by
  by_cases h:cap=k+1
  ·refine⟨⟨g,0,none⟩,by rw[aB h],λj u hj=>?_⟩
   have:=(eF.1 hj).1
   omega
  ·refine⟨⟨g,(k+1)*4,none⟩,by rw[ay h],λj u hj=>?_⟩
   rw[gU];refine hg.drew.cell ?_
   have hjl:=(eF.1 hj).1
   have e1:(cur.take (l.length*4))[(k+1)*4+j]?=some u:=by
    rw[htake,<- mO,IL ig 4 hk4,<- WC]
    exact hj
   rw[gJ]at e1
   split at e1
   ·exact e1
   ·cases e1
 have hzl:∀n,(Builtin.zeroCells #[.int .i64 0,.int .i64 0,.int .i64 0,.int .i64 0] n).toList.length=n*4:=λn=>by rw[nG];exact xK _ n
 have hcur:l.length*4<=cur.length:=by rw[hcs];exact mY _ hlc
 have hrun:∀ty,(Builtin.append_ #[28,28] ty #[.slice (some ⟨g,0,none⟩) k cap,.slice (some A) (l.length - (k+1)) (cap - (k+1))]).run prog w.drew=
   .ok (.slice (some ⟨g,0,none⟩) (k+(l.length - (k+1))) cap) (w.drew.setRow g (spl cur (k*4) cs).toArray):=λty=>by
  have h:=NC (P:=prog) w.drew 28 ty 46 i0 underlying28 hi0 g k cap (.slice (some A) (l.length - (k+1)) (cap - (k+1))) (l.length - (k+1)) cs cur hg.drew rfl
   (by rw[lg];exact qP w.drew 4 _ A _ _ cs hcl hsrc.O) (by omega) (by rw[lg,hcl];omega) hc1
  rw[lg]at h
  exact h
 obtain⟨W1,hW1⟩:∃W1,W1=w.drew.setRow g (spl cur (k*4) cs).toArray:=⟨_,rfl⟩;rw[<- hW1]at hrun
 have hg1:iV W1 g 46 (spl cur (k*4) cs):=by rw[hW1];exact hg.drew.row _
 have hl1:(spl cur (k*4) cs).length=cur.length:=zG (by rw[hcl];omega)
 have jiP:∀ty,(Builtin.clear_ #[28] ty #[.slice (some ⟨g,(k+(l.length - (k+1)))*4,none⟩) (l.length - (k+(l.length - (k+1)))) (cap - (k+(l.length - (k+1))))]).run prog W1=
   .ok (.tuple #[]) (W1.setRow g (spl (spl cur (k*4) cs) ((k+(l.length - (k+1)))*4) (Builtin.zeroCells #[.int .i64 0,.int .i64 0,.int .i64 0,.int .i64 0] (l.length - (k+(l.length - (k+1))))).toList).toArray):=λty=>
  Kr (P:=prog) W1 28 46 ty _ underlying28 jaO (by simp[Value.cells,Value.oneCell']) g _ _ _ _ hg1 (by omega) (by rw[hl1];simp[Value.cells];omega)
 have bK:∃jaw,iV (W1.setRow g (spl (spl cur (k*4) cs) ((k+(l.length - (k+1)))*4) (Builtin.zeroCells #[.int .i64 0,.int .i64 0,.int .i64 0,.int .i64 0] (l.length - (k+(l.length - (k+1))))).toList).toArray) g 46 jaw/\jaw.length=cap*4/\jaw.take ((l.eraseIdx k).length*4)=(l.eraseIdx k).flatMap ig:=by
  refine⟨_,hg1.row _,?_,?_⟩
  ·rw[zG (by rw[hl1,hzl];omega),hl1,hcs]
  ·have e1:(l.eraseIdx k).length*4=(k+(l.length - (k+1)))*4:=by rw[qC,aB hk];omega
   rw[e1,Zq (by rw[hl1];omega)]
   have e2:(k+(l.length - (k+1)))*4=k*4+cs.length:=by rw[hcl,ku]
   rw[e2,Zr (by omega),WX,WC]
   congr 1
   have e3:cur.take (k*4)=(cur.take (l.length*4)).take (k*4):=by rw[oC,jS (by omega)]
   rw[e3,htake,Gv ig 4 hk4]
 have hgr:w.grownBy (W1.setRow g (spl (spl cur (k*4) cs) ((k+(l.length - (k+1)))*4) (Builtin.zeroCells #[.int .i64 0,.int .i64 0,.int .i64 0,.int .i64 0] (l.length - (k+(l.length - (k+1))))).toList).toArray) (some g):=by
  rw[hW1];have g1:=yU w.drew g (spl cur (k*4) cs).toArray;have g2:=yU (w.drew.setRow g (spl cur (k*4) cs).toArray) g (spl (spl cur (k*4) cs) ((k+(l.length - (k+1)))*4) (Builtin.zeroCells #[.int .i64 0,.int .i64 0,.int .i64 0,.int .i64 0] (l.length - (k+(l.length - (k+1))))).toList).toArray;exact⟨g2.os.trans g1.os,g2.tape.trans g1.tape,g2.output.trans g1.output,aY g1.size g2.size,λq hq hne=>(g2.block q (aI hq g1.size) hne).trans (g1.block q hq hne)⟩
 obtain⟨W2,hW2⟩:∃W2,W2=W1.setRow g (spl (spl cur (k*4) cs) ((k+(l.length - (k+1)))*4) (Builtin.zeroCells #[.int .i64 0,.int .i64 0,.int .i64 0,.int .i64 0] (l.length - (k+(l.length - (k+1))))).toList).toArray:=⟨_,rfl⟩;rw[<- hW2]at jiP bK hgr
 have hlen2:(l.eraseIdx k).length=k+(l.length - (k+1)):=by rw[qC,aB hk];omega
 have Hg:=ah bK;have jnJ:=ah hgr;have Wv:=ah hlen2;have hw1:IntKind.i64.wrap ((k:Int)+1)=(k:Int)+1:=by rw[jY];omega
 have hkc:k<=cap:=by omega
 have jtF:k+1<=cap:=by omega
 have hcm':cap<=9223372036854775807:=by unfold maxLen at hcm;omega
 have jnQ:=ah hcm;have jnB:=ah hlc;have hkne:¬((k:Int)=(k:Int)+1):=by omega
 have hb1:(0:Int)<=(k:Int)+1:=by omega
 have hb2:(k:Int)+1<=(l.length:Int):=by omega
 have hb3:(k:Int)<=(l.length:Int):=by omega
 have htn:((k:Int)+1).toNat=k+1:=by omega
 have hl2:k+(l.length - (k+1))<l.length:=by omega
 have hl3:¬(cap=k+(l.length - (k+1))):=by omega
 clear WC hcm hi0 hg hcl hW1 hW2 hg1 hl1 bK hgr hlen2 hcs htake hcur hc1;go_enter func155,ntmps155
 go_wp2_with fail;go_region_law (refine qV _ rfl (.tmp 22) (.tmp 25) 28 28 rfl (.slice (some ⟨g,0,none⟩) k cap) (.slice (some A) (l.length - (k+1)) (cap - (k+1))) (by simp[Act.eval,Act.put]) (by simp[Act.eval,Act.put]) (hrun _) ?_)
 go_wp2_with fail;go_ret
 obtain⟨jaw,c1,c2,c3⟩:=Hg.O;refine⟨_,rfl,?_,jnJ.O,rfl⟩
 rw[<- Wv.O];exact Own.NH hk4 hbg c1 (by rw[Wv.O];have:=jnB.O;omega) jnQ.O c2 c3
theorem KO:Elem prog 48 (.agg #[.int .i64 0,.int .i64 0,.int .i64 0,.int .i64 0]) 4 32:=Iu (by kernel_rfl)
theorem O4(x:Move):∀u∈nP x,u.oneCell'=true:=by simp[nP,Value.oneCell']
theorem jgA(w:World)(v:Value)(l:List Move)(hv:Sl nP w w.heap.size v l)(hn:l.length<=1000000):
  Calls prog 112 #[v] w (Gives (λu w'=>Own nP 4 48 w' w.heap.size u l) w):=by
 obtain⟨A,c,rfl,hl,hA⟩:=hv;have qT:∀(w:World) (a:Option Addr) (n c n' c':Nat),(binOp .eql 29 (.slice a n c) (.slice none n' c')).run prog w=.ok (.bool a.isNone) w:=λw a n c n' c'=>Lib.run_eql_slice_nil w _ _ a n c n' c' underlying29
 cases A with
 |none=>
  have h0:l=[]:=by
   cases l with
   |nil=>rfl
   |cons x r=>exact absurd (hA.ok (by simp[nP])) (by rintro⟨b,off,h⟩;cases h)
  subst h0;go_enter func112,ntmps112
  go_wp2_with (at_builtin;refine aW ?_)
  go_ret
  exact⟨_,rfl,Own.nil,aj _ _⟩
 |some ad=>
  go_enter func112,ntmps112
  go_wp2_with (at_builtin;refine aW ?_)
  unfold Hid;refine IV _ rfl (.tmp 5) (.tmp 6) 29 48 rfl w.heap.size _ 4 32 underlying29 KO rfl (by decide) (by decide) (.slice (some ⟨w.heap.size,0,none⟩) 0 0) ([]:List Move) l rfl (Own.VQ w _ (au _)) (some ad) c w.heap.size rfl (λ_=>rfl)
   (hA.up ((aj _ _).alloc (au _) _) (au _)) (λy=>O4 y) (by simpa using hn) (by simp) ?_
  intro v1 w1 yj hg1 jb7 FC;go_wp2_with fail;go_ret
  exact⟨_,rfl,by simpa using yj,((aj _ _).alloc (au _) _).trans FC⟩
theorem jaN(w:World):(zeroValue 48).run prog w=.ok (.agg #[.int .i64 0,.int .i64 0,.int .i64 0,.int .i64 0]) w:=by kernel_rfl
theorem jlr(w:World)(aO:Nat)(v:Value)(l:List Move)(k:Nat)(lC:Own nP 4 48 w aO v l)(hk:k<l.length)(hn:l.length<=1000000):
  Calls prog 105 #[v,.int .i64 k,.int .i64 ((k:Int)+1)] w λe w'=>
   ∃v',e=.returned v'/\Own nP 4 48 w' aO v' (l.eraseIdx k)/\w.grownBy w' v.ownBlock/\v'.ownBlock=v.ownBlock:=by
 obtain⟨g,cap,cur,rfl,hbg,hg,hlc,hcm,hcs,htake⟩:=lC.row (by omega)
 obtain⟨i0,hi0,hz0,lg,jiQ⟩:=KO;have hk4:∀x,(nP x).length=4:=λ_=>rfl
 obtain⟨cs,WC⟩:∃cs,cs=(l.drop (k+1)).flatMap nP:=⟨_,rfl⟩;have hcl:cs.length=(l.length - (k+1))*4:=by rw[WC,kL nP 4 hk4,fQ]
 have hc1:∀u∈cs,u.oneCell'=true:=λu hu=>by
  rw[WC]at hu
  obtain⟨y,_,hy⟩:=oL.1 hu;exact O4 y u hy
 obtain⟨A,hA,hsrc⟩:∃A:Addr,(if cap=k+1 then some (⟨g,0,none⟩:Addr)else some ⟨g,(k+1)*4,none⟩)=some A/\Hid (∀j u,cs[j]?=some u->w.drew.cell? (A.add j)=some u):=by
  by_cases h:cap=k+1
  ·refine⟨⟨g,0,none⟩,by rw[aB h],λj u hj=>?_⟩
   have:=(eF.1 hj).1
   omega
  ·refine⟨⟨g,(k+1)*4,none⟩,by rw[ay h],λj u hj=>?_⟩
   rw[gU];refine hg.drew.cell ?_
   have hjl:=(eF.1 hj).1
   have e1:(cur.take (l.length*4))[(k+1)*4+j]?=some u:=by
    rw[htake,<- mO,IL nP 4 hk4,<- WC]
    exact hj
   rw[gJ]at e1
   split at e1
   ·exact e1
   ·cases e1
 have hzl:∀n,(Builtin.zeroCells #[.int .i64 0,.int .i64 0,.int .i64 0,.int .i64 0] n).toList.length=n*4:=λn=>by rw[nG];exact xK _ n
 have hcur:l.length*4<=cur.length:=by rw[hcs];exact mY _ hlc
 have hrun:∀ty,(Builtin.append_ #[29,29] ty #[.slice (some ⟨g,0,none⟩) k cap,.slice (some A) (l.length - (k+1)) (cap - (k+1))]).run prog w.drew=
   .ok (.slice (some ⟨g,0,none⟩) (k+(l.length - (k+1))) cap) (w.drew.setRow g (spl cur (k*4) cs).toArray):=λty=>by
  have h:=NC (P:=prog) w.drew 29 ty 48 i0 underlying29 hi0 g k cap (.slice (some A) (l.length - (k+1)) (cap - (k+1))) (l.length - (k+1)) cs cur hg.drew rfl
   (by rw[lg];exact qP w.drew 4 _ A _ _ cs hcl hsrc.O) (by omega) (by rw[lg,hcl];omega) hc1
  rw[lg]at h
  exact h
 obtain⟨W1,hW1⟩:∃W1,W1=w.drew.setRow g (spl cur (k*4) cs).toArray:=⟨_,rfl⟩;rw[<- hW1]at hrun
 have hg1:iV W1 g 48 (spl cur (k*4) cs):=by rw[hW1];exact hg.drew.row _
 have hl1:(spl cur (k*4) cs).length=cur.length:=zG (by rw[hcl];omega)
 have jiP:∀ty,(Builtin.clear_ #[29] ty #[.slice (some ⟨g,(k+(l.length - (k+1)))*4,none⟩) (l.length - (k+(l.length - (k+1)))) (cap - (k+(l.length - (k+1))))]).run prog W1=
   .ok (.tuple #[]) (W1.setRow g (spl (spl cur (k*4) cs) ((k+(l.length - (k+1)))*4) (Builtin.zeroCells #[.int .i64 0,.int .i64 0,.int .i64 0,.int .i64 0] (l.length - (k+(l.length - (k+1))))).toList).toArray):=λty=>
  Kr (P:=prog) W1 29 48 ty _ underlying29 jaN (by simp[Value.cells,Value.oneCell']) g _ _ _ _ hg1 (by omega) (by rw[hl1];simp[Value.cells];omega)
 have bK:∃jaw,iV (W1.setRow g (spl (spl cur (k*4) cs) ((k+(l.length - (k+1)))*4) (Builtin.zeroCells #[.int .i64 0,.int .i64 0,.int .i64 0,.int .i64 0] (l.length - (k+(l.length - (k+1))))).toList).toArray) g 48 jaw/\jaw.length=cap*4/\jaw.take ((l.eraseIdx k).length*4)=(l.eraseIdx k).flatMap nP:=by
  refine⟨_,hg1.row _,?_,?_⟩
  ·rw[zG (by rw[hl1,hzl];omega),hl1,hcs]
  ·have e1:(l.eraseIdx k).length*4=(k+(l.length - (k+1)))*4:=by rw[qC,aB hk];omega
   rw[e1,Zq (by rw[hl1];omega)]
   have e2:(k+(l.length - (k+1)))*4=k*4+cs.length:=by rw[hcl,ku]
   rw[e2,Zr (by omega),WX,WC]
   congr 1
   have e3:cur.take (k*4)=(cur.take (l.length*4)).take (k*4):=by rw[oC,jS (by omega)]
   rw[e3,htake,Gv nP 4 hk4]
 have hgr:w.grownBy (W1.setRow g (spl (spl cur (k*4) cs) ((k+(l.length - (k+1)))*4) (Builtin.zeroCells #[.int .i64 0,.int .i64 0,.int .i64 0,.int .i64 0] (l.length - (k+(l.length - (k+1))))).toList).toArray) (some g):=by
  rw[hW1];have g1:=yU w.drew g (spl cur (k*4) cs).toArray;have g2:=yU (w.drew.setRow g (spl cur (k*4) cs).toArray) g (spl (spl cur (k*4) cs) ((k+(l.length - (k+1)))*4) (Builtin.zeroCells #[.int .i64 0,.int .i64 0,.int .i64 0,.int .i64 0] (l.length - (k+(l.length - (k+1))))).toList).toArray;exact⟨g2.os.trans g1.os,g2.tape.trans g1.tape,g2.output.trans g1.output,aY g1.size g2.size,λq hq hne=>(g2.block q (aI hq g1.size) hne).trans (g1.block q hq hne)⟩
 obtain⟨W2,hW2⟩:∃W2,W2=W1.setRow g (spl (spl cur (k*4) cs) ((k+(l.length - (k+1)))*4) (Builtin.zeroCells #[.int .i64 0,.int .i64 0,.int .i64 0,.int .i64 0] (l.length - (k+(l.length - (k+1))))).toList).toArray:=⟨_,rfl⟩;rw[<- hW2]at jiP bK hgr
 have hlen2:(l.eraseIdx k).length=k+(l.length - (k+1)):=by rw[qC,aB hk];omega
 have Hg:=ah bK;have jnJ:=ah hgr;have Wv:=ah hlen2;have hw1:IntKind.i64.wrap ((k:Int)+1)=(k:Int)+1:=by rw[jY];omega
 have hkc:k<=cap:=by omega
 have jtF:k+1<=cap:=by omega
 have hcm':cap<=9223372036854775807:=by unfold maxLen at hcm;omega
 have jnQ:=ah hcm;have jnB:=ah hlc;have hkne:¬((k:Int)=(k:Int)+1):=by omega
 have hb1:(0:Int)<=(k:Int)+1:=by omega
 have hb2:(k:Int)+1<=(l.length:Int):=by omega
 have hb3:(k:Int)<=(l.length:Int):=by omega
 have htn:((k:Int)+1).toNat=k+1:=by omega
 have hl2:k+(l.length - (k+1))<l.length:=by omega
 have hl3:¬(cap=k+(l.length - (k+1))):=by omega
 clear WC hcm hi0 hg hcl hW1 hW2 hg1 hl1 bK hgr hlen2 hcs htake hcur hc1;go_enter func105,ntmps105
 go_wp2_with fail;go_region_law (refine qV _ rfl (.tmp 22) (.tmp 25) 29 29 rfl (.slice (some ⟨g,0,none⟩) k cap) (.slice (some A) (l.length - (k+1)) (cap - (k+1))) (by simp[Act.eval,Act.put]) (by simp[Act.eval,Act.put]) (hrun _) ?_)
 go_wp2_with fail;go_ret
 obtain⟨jaw,c1,c2,c3⟩:=Hg.O;refine⟨_,rfl,?_,jnJ.O,rfl⟩
 rw[<- Wv.O];exact Own.NH hk4 hbg c1 (by rw[Wv.O];have:=jnB.O;omega) jnQ.O c2 c3
theorem NR:Elem prog 44 (.agg #[.int .i64 0,.int .i64 0,.int .i64 0,.int .i64 0]) 4 32:=Iu (by kernel_rfl)
theorem ZK(x:Line):∀u∈kP x,u.oneCell'=true:=by simp[kP,Value.oneCell']
theorem Zb(w:World)(v:Value)(l:List Line)(hv:Sl kP w w.heap.size v l)(hn:l.length<=1000000):
  Calls prog 98 #[v] w (Gives (λu w'=>Own kP 4 44 w' w.heap.size u l) w):=by
 obtain⟨A,c,rfl,hl,hA⟩:=hv;have qT:∀(w:World) (a:Option Addr) (n c n' c':Nat),(binOp .eql 32 (.slice a n c) (.slice none n' c')).run prog w=.ok (.bool a.isNone) w:=λw a n c n' c'=>Lib.run_eql_slice_nil w _ _ a n c n' c' underlying32
 cases A with
 |none=>
  have h0:l=[]:=by
   cases l with
   |nil=>rfl
   |cons x r=>exact absurd (hA.ok (by simp[kP])) (by rintro⟨b,off,h⟩;cases h)
  subst h0;go_enter func98,ntmps98
  go_wp2_with (at_builtin;refine aW ?_)
  go_ret
  exact⟨_,rfl,Own.nil,aj _ _⟩
 |some ad=>
  go_enter func98,ntmps98
  go_wp2_with (at_builtin;refine aW ?_)
  unfold Hid;refine IV _ rfl (.tmp 5) (.tmp 6) 32 44 rfl w.heap.size _ 4 32 underlying32 NR rfl (by decide) (by decide) (.slice (some ⟨w.heap.size,0,none⟩) 0 0) ([]:List Line) l rfl (Own.VQ w _ (au _)) (some ad) c w.heap.size rfl (λ_=>rfl)
   (hA.up ((aj _ _).alloc (au _) _) (au _)) (λy=>ZK y) (by simpa using hn) (by simp) ?_
  intro v1 w1 yj hg1 jb7 FC;go_wp2_with fail;go_ret
  exact⟨_,rfl,by simpa using yj,((aj _ _).alloc (au _) _).trans FC⟩
end Wh
namespace Wh
open Go Go.RowKit Go.Shelf Go.Proofs Tryz
attribute [local go_sem] aT
theorem jmO(w:World)(v:Value)(on:List (List Int))(hv:FW jJ w w.heap.size v on)(hn:on.length<=1000)(hr:∀k,k<on.length->0<(fO on k).length/\(fO on k).length<=1000):
  Calls prog 43 #[v] w (Gives (λu w'=>∃gs,qM 23 3 w' w.heap.size u on gs) w):=by
 have hO:=hv;obtain⟨A,c,vs,rfl,hl,hvl,hA,G9⟩:=hv;go_enter func43,ntmps43
 go_wp2_with fail;go_loopw[3,4] (λu i wr=>∃(k:Nat) (gs:List Nat),k<=on.length/\i=.int .i64 k/\qM 23 3 wr w.heap.size u (on.take k) gs/\Below w.heap.size w wr) (λ_ i _=>on.length - (RowKit.intOf i).toNat)
 case atStart=>exact⟨0,[],aK _,rfl,qM.nil,aj _ _⟩
 case round=>
  obtain⟨k,gs,hk,rfl,lC,hbw⟩:=hrel;by_cases hlt:k<on.length
  ·obtain⟨A',c',hok,LG,hcu,hsu⟩:=(hO.up hbw hbw.size).row hlt;have hrk:=hr k hlt;have hA2:=hsu.at_;obtain⟨vs',hV⟩:=lC;have h1:=hV.1;have h2:=hV.2.1;have kD:(on.take k).length<=1000:=aY (xU _ _) (by omega)
   go_wp2_with (first|(at_builtin;refine aW ?_)|fail)
   unfold Hid;refine IV _ rfl (.tmp 12) (.tmp 16) 23 3 rfl wr.heap.size _ 1 8 underlying23 L9 rfl (by decide) (by decide) (.slice (some ⟨wr.heap.size,0,none⟩) 0 0) ([]:List Int) (fO on k) rfl (Own.VQ wr _ (au _)) A' c' wr.heap.size rfl (λ_=>rfl)
    (hA2.up ((aj _ _).alloc (au _) _) (au _)) (λy=>UU y) (by simp;omega) (by simp) ?_
   intro v1 w1 yj hg1 jb7 FC;rw[iy]at yj
   obtain⟨g,cu,rfl,hgb,hgl⟩:=yj.some_ hrk.1;have hb1:Below wr.heap.size wr w1:=((aj _ _).alloc (au _) _).trans FC;have sF:=hbw.trans (hb1.mono hbw.size);go_wp2_with (first|(at_builtin;refine aW ?_)|fail)
   unfold Hid;refine lS _ rfl (.tmp 11) (.tmp 18) 26 23 rfl w.heap.size _ 1 24 underlying26 Rw rfl (by decide) (by decide) u3 vs' (.slice (some ⟨g,0,none⟩) (fO on k).length cu) rfl ((h1.below hb1).alloc _) ⟨w1.heap.size,0,none⟩ 1 rfl rfl (cell_one_new _ _ _) (UR _ rfl) (by omega) (by have:=sF.size;simp;omega) ?_
   intro v2 w2 yh hg2 jt2 ji3;have hpush:=Xt.push (by decide) hV (hb1.alloc hb1.size _) hgb ((yj.from_ hbw.size).alloc _) hg2 yh
   rw[xZ hlt,<- Dq hlt]at hpush
   have hbw2:=(sF.alloc sF.size (.cells #[.slice (some ⟨g,0,none⟩) (fO on k).length cu] 23)).trans ji3;go_wp2_with fail;go_roundw
   case rel=>exact⟨k+1,_,by omega,by go_num,hpush,hbw2⟩
   case measure=>simp[RowKit.intOf];omega
  ·obtain rfl:k=on.length:=by omega
   rw[fG]at lC
   go_wp2_with fail;go_ret
   exact⟨_,rfl,⟨gs,lC⟩,hbw⟩
end Wh
namespace Wh
open Go Go.RowKit Go.Shelf Go.Proofs Tryz
attribute [local go_sem] aT jW jm kC
theorem O9:Elem prog 42 (.agg #[.int .i64 0,.slice none 0 0]) 2 32:=Iu (by kernel_rfl)
theorem ZJ(x:Int×Value)(h:x.2.oneCell'=true):∀u∈Nl x,u.oneCell'=true:=by
 intro u hu;simp only[Nl,jM,oK,ny]at hu
 rcases hu with rfl|rfl
 ·rfl
 ·exact h
theorem qO{α:Type}{enc:α->List Value}{size:Nat}{e:TypeId}{w:World}{aO:Nat}{v:Value}{l:List α}(h:Own enc size e w aO v l):v.oneCell'=true:=by
 obtain⟨A,c,rfl⟩:=h.isSlice;rfl
theorem jda{s:aJ}{k:Nat}(h:k<s.ak.length):s.ak.take (k+1)=s.ak.take k++[aU s.ak k]:=by
 rw[dO h,uy h]
def upTo(s:aJ)(k:Nat):aJ:={s with ak:=s.ak.take k}
theorem jaU(s:aJ):upTo s s.ak.length=s:=by
 unfold upTo;rw[fG]
theorem Ym{s:aJ}{k:Nat}(h:k<s.ak.length):upTo s (k+1)={upTo s k with ak:=(upTo s k).ak++[aU s.ak k]}:=by
 unfold upTo;simp only;rw[jda h]
theorem ja1(w:World)(v:Value)(p:dA)(s:aJ)(hv:lK w w.heap.size v s)(hs:o9 p s):
  Calls prog 61 #[v] w (Gives (λu w'=>∃V,u=V.val/\dK w' w.heap.size V s) w):=by
 have h4:=hs.qH;have h8:=hs.vJ;have h72:=su hs.aA;have hcnt:=hs.counts;have zy:=ah hs;clear hs;obtain⟨A0,c0,A1,c1,A2,c2,A3,c3,A4,c4,A5,c5,A6,c6,rfl,hV,hN,hO,hH,hM,hI,hU,hX,hl0,hl1,hl2,hl3,hl4,hl5,JA⟩:=oW hv;go_enter func61,ntmps61
 go_wp2_with fail;obtain⟨W0,hW0,hb0,lg,uZ,hsE,hK⟩:=Lp w s A0 c0 A1 c1 A2 c2 A3 c3 A4 c4 A5 c5 A6 c6;rw[hW0];clear hW0;generalize hW1:W0.alloc _=W1;have hb1:Below W0.heap.size W0 W1:=by rw[<- hW1];exact(aj _ _).alloc (au _) _
 have hs1:W0.heap.size<W1.heap.size:=by rw[<- hW1];simp
 have jji:=ah (show iV W1 W0.heap.size 31 [.slice none 0 0,.slice none 0 0,.slice none 0 0,.slice none 0 0,.slice none 0 0,.slice none 0 0,.slice none 0 0]by rw[<- hW1];exact iV.new _ _ _)
 clear hW1;have hB1:=hb0.trans (hb1.mono hb0.size);have G9:∀k,k<s.on.length->0<(fO s.on k).length/\(fO s.on k).length<=1000:=λk hk=>by
  have:=zy.O.rowLen (b:=k) (by rw[<- zy.O.tY];exact hk)
  omega
 have hon:s.on.length<=1000:=by rw[zy.O.tY];omega
 have jdS:=ah G9;have jkZ:=ah zy.O.gY.1;have jkJ:=ah zy.O.O.1;have ZX:=ah zy.O.bg.1;clear G9;refine qZ 20 [
  λg _=>g 6=.pointer (some ⟨w.heap.size,0,none⟩),λg _=>g 7=.slice A0 s.on.length c0,λg w'=>(λv w'=>∃gs,qM 23 3 w' W1.heap.size (v) s.on gs) (g 8) w',λg _=>g 9=.pointer (some ⟨w.heap.size,2,none⟩),λg _=>g 10=.slice A2 s.aA.length c2,λg w'=>Own ig 4 46 w' W1.heap.size (g 11) s.aA/\∃gs,qM 23 3 w' W1.heap.size (g 8) s.on gs,λg _=>g 12=.pointer (some ⟨w.heap.size,3,none⟩),λg _=>g 13=.slice A3 s.aF.length c3,λg w'=>Own nP 4 48 w' W1.heap.size (g 14) s.aF/\∃gs,qM 23 3 w' W1.heap.size (g 8) s.on gs,λg _=>g 15=.pointer (some ⟨w.heap.size,4,none⟩),λg _=>g 16=.slice A4 s.gY.length c4,λg w'=>F5 w' W1.heap.size s.on s.gY (g 8) (g 17),λg _=>g 18=.pointer (some ⟨w.heap.size,5,none⟩),λg _=>g 19=.slice A5 s.O.length c5,λg w'=>FZ w' W1.heap.size s.on s.gY s.O (g 8) (g 17) (g 20),λg _=>g 21=.pointer (some ⟨w.heap.size,6,none⟩),λg _=>g 22=.slice A6 s.bg.length c6,λg w'=>FU w' W1.heap.size s.on s.gY s.O s.bg (g 8) (g 17) (g 20) (g 23),λg _=>g 24=.agg #[g 8,.slice none 0 0,g 11,g 14,g 17,g 20,g 23],λg w'=>(λv w'=>∃b,v=.pointer (some ⟨b,0,none⟩)/\W1.heap.size<=b/\jk w' b ⟨mJ,mJ,mJ,mJ,mJ,mJ,mJ,[],[]⟩) (g 3) w'] (by kernel_rfl) (by kernel_rfl) rfl (by kernel_rfl) ?_ (λf w2 hb2 hR=>?_)
 simp only[bC,bV];refine dX.cons (iR.val rfl rfl (λg w' hb ho hd=>?_)) ?_
 ·have e1:=ho 1 rfl;go_simp
 refine dX.cons (iR.val rfl rfl (λg w' hb ho hd=>?_)) ?_
 ·have e1:g 6=.pointer (some ⟨w.heap.size,0,none⟩):=hd ⟨0,.data⟩ (by simp) rfl (by decide)
  obtain⟨_,x0,x1,x2,x3,x4,x5,x6,_⟩:=hK.O w' (hb1.trans (hb.mono hb1.size));go_simp
 refine dX.cons (iR.one (d:=8) (p:=(λv w'=>∃gs,qM 23 3 w' W1.heap.size (v) s.on gs)) rfl rfl (λv w1 w2 h hb=>h.elim λgs h=>⟨gs,h.below hb⟩) (λg w' hb ho hd=>?_)) ?_
 ·have e1:g 7=.slice A0 s.on.length c0:=hd ⟨1,.data⟩ (by simp) rfl (by decide)
  unfold iT;go_simp
  refine(jg6 w' _ s.on (hN.O w' (hB1.trans (hb.mono hB1.size))) hon jdS.O).mono ?_
  rintro e w2 ⟨u,rfl,⟨gs,h⟩,hb2⟩;exact⟨u,rfl,⟨gs,h.from_ hb.size⟩,hb2⟩
 refine dX.cons (iR.val rfl rfl (λg w' hb ho hd=>?_)) ?_
 ·have e1:=ho 1 rfl;go_simp
 refine dX.cons (iR.val rfl rfl (λg w' hb ho hd=>?_)) ?_
 ·have e1:g 9=.pointer (some ⟨w.heap.size,2,none⟩):=hd ⟨3,.data⟩ (by simp) rfl (by decide)
  obtain⟨_,x0,x1,x2,x3,x4,x5,x6,_⟩:=hK.O w' (hb1.trans (hb.mono hb1.size));go_simp
 refine dX.cons (⟨λg w1 w2 h hb=>⟨h.1.below hb,h.2.elim λgs h=>⟨gs,h.below hb⟩⟩,λg g' w1 he h=>?_,λg w' hb ho hd=>?_⟩) ?_
 ·have e0:=he 2 _ 8 (.dP (i:=5) (e:=⟨2,.chain⟩) rfl (by simp) rfl rfl (.self 2)) rfl rfl
  have e2:=he 5 _ 11 (.self 5) rfl rfl;simp only[e0,e2]at h
  exact h
 ·have e1:g 10=.slice A2 s.aA.length c2:=hd ⟨4,.data⟩ (by simp) rfl (by decide)
  have e2:∃gs,qM 23 3 w' W1.heap.size (g 8) s.on gs:=hd ⟨2,.chain⟩ (by simp) rfl (by decide)
  have e2':=ah e2;clear e2;unfold iT;go_simp
  refine(Lj w' _ s.aA (hH.O w' (hB1.trans (hb.mono hB1.size))) (by omega)).mono ?_
  rintro e w2 ⟨u,rfl,h,hb2⟩;have bK:Own ig 4 46 w2 W1.heap.size (u) s.aA/\∃gs,qM 23 3 w2 W1.heap.size (g 8) s.on gs:=⟨h.from_ hb.size,e2'.O.elim λgs h=>⟨gs,h.below hb2⟩⟩
  exact⟨u,rfl,by simpa[qI,upd]using bK,hb2⟩
 refine dX.cons (iR.val rfl rfl (λg w' hb ho hd=>?_)) ?_
 ·have e1:=ho 1 rfl;go_simp
 refine dX.cons (iR.val rfl rfl (λg w' hb ho hd=>?_)) ?_
 ·have e1:g 12=.pointer (some ⟨w.heap.size,3,none⟩):=hd ⟨6,.data⟩ (by simp) rfl (by decide)
  obtain⟨_,x0,x1,x2,x3,x4,x5,x6,_⟩:=hK.O w' (hb1.trans (hb.mono hb1.size));go_simp
 refine dX.cons (⟨λg w1 w2 h hb=>⟨h.1.below hb,h.2.elim λgs h=>⟨gs,h.below hb⟩⟩,λg g' w1 he h=>?_,λg w' hb ho hd=>?_⟩) ?_
 ·have e0:=he 2 _ 8 (.dP (i:=8) (e:=⟨5,.chain⟩) rfl (by simp) rfl rfl (.dP (i:=5) (e:=⟨2,.chain⟩) rfl (by simp) rfl rfl (.self 2))) rfl rfl
  have e3:=he 8 _ 14 (.self 8) rfl rfl;simp only[e0,e3]at h
  exact h
 ·have e1:g 13=.slice A3 s.aF.length c3:=hd ⟨7,.data⟩ (by simp) rfl (by decide)
  have e2:Own ig 4 46 w' W1.heap.size (g 11) s.aA/\∃gs,qM 23 3 w' W1.heap.size (g 8) s.on gs:=hd ⟨5,.chain⟩ (by simp) rfl (by decide)
  have e2':=ah e2;clear e2;unfold iT;go_simp
  refine(jgA w' _ s.aF (hM.O w' (hB1.trans (hb.mono hB1.size))) (by omega)).mono ?_
  rintro e w2 ⟨u,rfl,h,hb2⟩;have bK:Own nP 4 48 w2 W1.heap.size (u) s.aF/\∃gs,qM 23 3 w2 W1.heap.size (g 8) s.on gs:=⟨h.from_ hb.size,e2'.O.2.elim λgs h=>⟨gs,h.below hb2⟩⟩
  exact⟨u,rfl,by simpa[qI,upd]using bK,hb2⟩
 refine dX.cons (iR.val rfl rfl (λg w' hb ho hd=>?_)) ?_
 ·have e1:=ho 1 rfl;go_simp
 refine dX.cons (iR.val rfl rfl (λg w' hb ho hd=>?_)) ?_
 ·have e1:g 15=.pointer (some ⟨w.heap.size,4,none⟩):=hd ⟨9,.data⟩ (by simp) rfl (by decide)
  obtain⟨_,x0,x1,x2,x3,x4,x5,x6,_⟩:=hK.O w' (hb1.trans (hb.mono hb1.size));go_simp
 refine dX.cons (⟨λg w1 w2 h hb=>h.below hb,λg g' w1 he h=>?_,λg w' hb ho hd=>?_⟩) ?_
 ·have e0:=he 2 _ 8 (.dP (i:=11) (e:=⟨8,.chain⟩) rfl (by simp) rfl rfl (.dP (i:=8) (e:=⟨5,.chain⟩) rfl (by simp) rfl rfl (.dP (i:=5) (e:=⟨2,.chain⟩) rfl (by simp) rfl rfl (.self 2)))) rfl rfl
  have e4:=he 11 _ 17 (.self 11) rfl rfl;simp only[e0,e4]at h
  exact h
 ·have e1:g 16=.slice A4 s.gY.length c4:=hd ⟨10,.data⟩ (by simp) rfl (by decide)
  have e2:Own nP 4 48 w' W1.heap.size (g 14) s.aF/\∃gs,qM 23 3 w' W1.heap.size (g 8) s.on gs:=hd ⟨8,.chain⟩ (by simp) rfl (by decide)
  have e2':=ah e2;clear e2;unfold iT;go_simp
  refine(RS w' _ s.gY (hI.O w' (hB1.trans (hb.mono hB1.size))) (by rw[jkZ.O];omega)).mono ?_
  rintro e w2 ⟨u,rfl,h,hb2⟩;have bK:F5 w2 W1.heap.size s.on s.gY (g 8) u:=e2'.O.2.elim λgs h8=>F5.of h8 hb.size hb2 h
  exact⟨u,rfl,by simpa[qI,upd]using bK,hb2⟩
 refine dX.cons (iR.val rfl rfl (λg w' hb ho hd=>?_)) ?_
 ·have e1:=ho 1 rfl;go_simp
 refine dX.cons (iR.val rfl rfl (λg w' hb ho hd=>?_)) ?_
 ·have e1:g 18=.pointer (some ⟨w.heap.size,5,none⟩):=hd ⟨12,.data⟩ (by simp) rfl (by decide)
  obtain⟨_,x0,x1,x2,x3,x4,x5,x6,_⟩:=hK.O w' (hb1.trans (hb.mono hb1.size));go_simp
 refine dX.cons (⟨λg w1 w2 h hb=>h.below hb,λg g' w1 he h=>?_,λg w' hb ho hd=>?_⟩) ?_
 ·have e0:=he 2 _ 8 (.dP (i:=14) (e:=⟨11,.chain⟩) rfl (by simp) rfl rfl (.dP (i:=11) (e:=⟨8,.chain⟩) rfl (by simp) rfl rfl (.dP (i:=8) (e:=⟨5,.chain⟩) rfl (by simp) rfl rfl (.dP (i:=5) (e:=⟨2,.chain⟩) rfl (by simp) rfl rfl (.self 2))))) rfl rfl
  have e4:=he 11 _ 17 (.dP (i:=14) (e:=⟨11,.chain⟩) rfl (by simp) rfl rfl (.self 11)) rfl rfl
  have e5:=he 14 _ 20 (.self 14) rfl rfl;simp only[e0,e4,e5]at h
  exact h
 ·have e1:g 19=.slice A5 s.O.length c5:=hd ⟨13,.data⟩ (by simp) rfl (by decide)
  have e2:F5 w' W1.heap.size s.on s.gY (g 8) (g 17):=hd ⟨11,.chain⟩ (by simp) rfl (by decide)
  have e2':=ah e2;clear e2;unfold iT;go_simp
  refine(RS w' _ s.O (hU.O w' (hB1.trans (hb.mono hB1.size))) (by rw[jkJ.O];omega)).mono ?_
  rintro e w2 ⟨u,rfl,h,hb2⟩;have bK:FZ w2 W1.heap.size s.on s.gY s.O (g 8) (g 17) u:=FZ.of e2'.O hb.size hb2 h;exact⟨u,rfl,by simpa[qI,upd]using bK,hb2⟩
 refine dX.cons (iR.val rfl rfl (λg w' hb ho hd=>?_)) ?_
 ·have e1:=ho 1 rfl;go_simp
 refine dX.cons (iR.val rfl rfl (λg w' hb ho hd=>?_)) ?_
 ·have e1:g 21=.pointer (some ⟨w.heap.size,6,none⟩):=hd ⟨15,.data⟩ (by simp) rfl (by decide)
  obtain⟨_,x0,x1,x2,x3,x4,x5,x6,_⟩:=hK.O w' (hb1.trans (hb.mono hb1.size));go_simp
 refine dX.cons (⟨λg w1 w2 h hb=>h.below hb,λg g' w1 he h=>?_,λg w' hb ho hd=>?_⟩) ?_
 ·have e0:=he 2 _ 8 (.dP (i:=17) (e:=⟨14,.chain⟩) rfl (by simp) rfl rfl (.dP (i:=14) (e:=⟨11,.chain⟩) rfl (by simp) rfl rfl (.dP (i:=11) (e:=⟨8,.chain⟩) rfl (by simp) rfl rfl (.dP (i:=8) (e:=⟨5,.chain⟩) rfl (by simp) rfl rfl (.dP (i:=5) (e:=⟨2,.chain⟩) rfl (by simp) rfl rfl (.self 2)))))) rfl rfl
  have e4:=he 11 _ 17 (.dP (i:=17) (e:=⟨14,.chain⟩) rfl (by simp) rfl rfl (.dP (i:=14) (e:=⟨11,.chain⟩) rfl (by simp) rfl rfl (.self 11))) rfl rfl
  have e5:=he 14 _ 20 (.dP (i:=17) (e:=⟨14,.chain⟩) rfl (by simp) rfl rfl (.self 14)) rfl rfl
  have e6:=he 17 _ 23 (.self 17) rfl rfl;simp only[e0,e4,e5,e6]at h
  exact h
 ·have e1:g 22=.slice A6 s.bg.length c6:=hd ⟨16,.data⟩ (by simp) rfl (by decide)
  have e2:FZ w' W1.heap.size s.on s.gY s.O (g 8) (g 17) (g 20):=hd ⟨14,.chain⟩ (by simp) rfl (by decide)
  have e2':=ah e2;clear e2;unfold iT;go_simp
  refine(RS w' _ s.bg (hX.O w' (hB1.trans (hb.mono hB1.size))) (by rw[ZX.O];omega)).mono ?_
  rintro e w2 ⟨u,rfl,h,hb2⟩;have bK:FU w2 W1.heap.size s.on s.gY s.O s.bg (g 8) (g 17) (g 20) u:=FU.of e2'.O hb.size hb2 h;exact⟨u,rfl,by simpa[qI,upd]using bK,hb2⟩
 refine dX.cons (⟨λg w1 w2 h hb=>h,λg g' w1 he h=>?_,λg w' hb ho hd=>?_⟩) ?_
 ·have es:=he 18 _ 24 (.self 18) rfl rfl;have e0:=he 2 _ 8 (.dP (i:=18) (e:=⟨2,.data⟩) rfl (by simp) rfl rfl (.self 2)) rfl rfl
  have e2:=he 5 _ 11 (.dP (i:=18) (e:=⟨5,.data⟩) rfl (by simp) rfl rfl (.self 5)) rfl rfl
  have e3:=he 8 _ 14 (.dP (i:=18) (e:=⟨8,.data⟩) rfl (by simp) rfl rfl (.self 8)) rfl rfl
  have e4:=he 11 _ 17 (.dP (i:=18) (e:=⟨11,.data⟩) rfl (by simp) rfl rfl (.self 11)) rfl rfl
  have e5:=he 14 _ 20 (.dP (i:=18) (e:=⟨14,.data⟩) rfl (by simp) rfl rfl (.self 14)) rfl rfl
  have e6:=he 17 _ 23 (.dP (i:=18) (e:=⟨17,.data⟩) rfl (by simp) rfl rfl (.self 17)) rfl rfl
  change g' 24=.agg #[g' 8,.slice none 0 0,g' 11,g' 14,g' 17,g' 20,g' 23];rw[<- es,<- e0,<- e2,<- e3,<- e4,<- e5,<- e6];exact h
 ·obtain⟨B0,d0,s0⟩:∃A c,g 8=.slice A s.on.length c:=(hd ⟨2,.data⟩ (by simp) rfl (by decide):∃gs,qM 23 3 w' W1.heap.size (g 8) s.on gs).elim λgs h=>h.isSlice
  obtain⟨B2,d2,s2⟩:=(hd ⟨5,.data⟩ (by simp) rfl (by decide):Own ig 4 46 w' W1.heap.size (g 11) s.aA/\∃gs,qM 23 3 w' W1.heap.size (g 8) s.on gs).1.isSlice
  obtain⟨B3,d3,s3⟩:=(hd ⟨8,.data⟩ (by simp) rfl (by decide):Own nP 4 48 w' W1.heap.size (g 14) s.aF/\∃gs,qM 23 3 w' W1.heap.size (g 8) s.on gs).1.isSlice
  obtain⟨B4,d4,s4⟩:=(hd ⟨11,.data⟩ (by simp) rfl (by decide):F5 w' W1.heap.size s.on s.gY (g 8) (g 17)).isSlice
  obtain⟨B5,d5,s5⟩:=(hd ⟨14,.data⟩ (by simp) rfl (by decide):FZ w' W1.heap.size s.on s.gY s.O (g 8) (g 17) (g 20)).isSlice
  obtain⟨B6,d6,s6⟩:=(hd ⟨17,.data⟩ (by simp) rfl (by decide):FU w' W1.heap.size s.on s.gY s.O s.bg (g 8) (g 17) (g 20) (g 23)).isSlice
  unfold iT;go_simp
  exact⟨by simp[qI,upd,s0,s2,s3,s4,s5,s6],aj _ _⟩
 refine dX.cons (iR.one (d:=3) (p:=(λv w'=>∃b,v=.pointer (some ⟨b,0,none⟩)/\W1.heap.size<=b/\jk w' b ⟨mJ,mJ,mJ,mJ,mJ,mJ,mJ,[],[]⟩)) rfl rfl (λv w1 w2 h hb=>h.elim λb h=>⟨b,h.1,h.2.1,h.2.2.below hb h.2.2.lt⟩) (λg w' hb ho hd=>?_)) ?_
 ·unfold iT;go_simp
  exact⟨⟨hb.size,iV.new _ _ _⟩,(aj _ _).alloc (au _) _⟩
 exact dX.nil;obtain⟨r0,r1,r2,r3,r4,r5,r6,r7,r8,r9,r10,r11,r12,r13,kK,r15,r16,r17,r18,⟨b,r19,hbb,E5⟩,_⟩:=hR;simp only[kG,zB,bC,bV,eG,gW,eX,fF,fB,gV,bM,dF,dL,r0,r1,r3,r4,r6,r7,r9,r10,r12,r13,r15,r16,r18,r19];obtain⟨B0,d0,s0⟩:=r17.jbI;obtain⟨B2,d2,s2⟩:=r5.1.isSlice;obtain⟨B3,d3,s3⟩:=r8.1.isSlice;obtain⟨B4,d4,s4⟩:=r11.isSlice;obtain⟨B5,d5,s5⟩:=kK.isSlice;obtain⟨B6,d6,s6⟩:=r17.isSlice;obtain⟨vs,lC⟩:=r17.made r5.1 r8.1;simp only[s0,s2,s3,s4,s5,s6]at lC ⊢
 have hO2:=ah lC;clear lC s0 s2 s3 s4 s5 s6;clear r0 r1 r2 r3 r4 r5 r6 r7 r8 r9 r10 r11 r12 r13 kK r15 r16 r17 r18 r19;refine dB (.tmp 3) (.tmp 24) _ ⟨.slice B0 s.on.length d0,mJ,.slice B2 s.aA.length d2,.slice B3 s.aF.length d3,.slice B4 s.gY.length d4,.slice B5 s.O.length d5,.slice B6 s.bg.length d6,vs,[]⟩ rfl E5 rfl rfl (λw3 Nb hg3=>?_)
 have hbw:Below W1.heap.size W1 w3:=hb2.grown hg3 hb2.size (λk hk=>by injection hk with hk;omega)
 have hO3:dK w3 W1.heap.size ⟨.slice B0 s.on.length d0,mJ,.slice B2 s.aA.length d2,.slice B3 s.aF.length d3,.slice B4 s.gY.length d4,.slice B5 s.O.length d5,.slice B6 s.bg.length d6,vs,[]⟩ (upTo s 0):=
  hO2.O.keptBy hg3 E5.blk (by decide) (by decide) (by decide) (by decide) (by decide) (by decide)
 have jjc:=ah hO3;have N9:=ah Nb;clear hO3 hO2 E5 Nb hg3 hb2;have jb3:=hb1.trans (hbw.mono hb1.size);obtain⟨_,x0,x1,x2,x3,x4,x5,x6,_⟩:=hK.O w3 jb3;refine fC ?_
 go_wp2_with fail;go_loopw[28,5] (λi _ wr=>∃(k:Nat) (V:SV),k<=s.ak.length/\i=.int .i64 k/\dK wr W1.heap.size V (upTo s k)/\jk wr b V/\Below W1.heap.size W1 wr) (λi _ _=>s.ak.length - (RowKit.intOf i).toNat)
 case atStart=>exact⟨0,_,aK _,rfl,jjc.O,N9.O,hbw⟩
 case round=>
  clear x0 x1 x2 x3 x4 x5 x6 hbw jb3 jjc N9;obtain⟨k,V,hk,rfl,hOw,hbx,hbw⟩:=hrel;have H7:=ah hOw;have AZ:=ah hbx;clear hOw hbx;have hB:=hB1.trans (hbw.mono hB1.size);have jb3:=hb1.trans (hbw.mono hb1.size);by_cases hlt:k<s.ak.length
  ·obtain⟨A',c',Jh,Gs,e0,e1,hsl⟩:=(hO.O wr hB).aC hlt;obtain⟨l1,l3⟩:=zy.O.tN hlt;change 1<=(aU s.ak k).aH.length at l1
   change(aU s.ak k).aH.length<=3 at l3
   have hwa:Below wr.heap.size wr (wr.alloc (.cells #[.int .i64 (aU s.ak k).dW,.slice A' (aU s.ak k).aH.length c'] 42)):=(aj _ _).alloc (au _) _;have hla:wr.heap.size<(wr.alloc (.cells #[.int .i64 (aU s.ak k).dW,.slice A' (aU s.ak k).aH.length c'] 42)).heap.size:=by simp
   have hob:iV (wr.alloc (.cells #[.int .i64 (aU s.ak k).dW,.slice A' (aU s.ak k).aH.length c'] 42)) wr.heap.size 42 [.int .i64 (aU s.ak k).dW,.slice A' (aU s.ak k).aH.length c']:=iV.new _ _ _;have jno:=ah hob;clear hob;go_wp2_with fail;clear e0 e1;refine(Zb _ _ (aU s.ak k).aH (hsl.grow hwa) (by omega)).mono ?_
   rintro e W4 ⟨u,rfl,hu,hb4⟩;generalize hWa:wr.alloc (.cells #[.int .i64 (aU s.ak k).dW,.slice A' (aU s.ak k).aH.length c'] 42)=Wa at hwa hla jno hu hb4
   clear hWa hsl;obtain⟨Au,cu,rfl⟩:=hu.isSlice;have jaj:=hwa.trans (hb4.mono hwa.size);have jio:=jno.O.below hb4 hla;have jqX:=ah jio;have hu':=ah hu;have z0:=jio.cell (j:=0) rfl;have z1:=jio.cell (j:=1) rfl;have zf:=jio.frozen 1;have jof:=AZ.O.below jaj AZ.O.lt;have y1:=jof.cells.2.1;have hbne:b≠wr.heap.size:=Nat.ne_of_lt AZ.O.lt;have hbne':wr.heap.size≠b:=λe=>hbne e.symm
   have hBx4':=ah jof;clear jio hu jof jno;go_wp2_with (first|(at_builtin;refine aW ?_)|fail)
   unfold Hid;have jeh:Below wr.heap.size wr (W4.setCell ⟨wr.heap.size,1,none⟩ (Value.slice Au (aU s.ak k).aH.length cu)):=jaj.setCell (au _) _;have hb16:Below wr.heap.size wr ((W4.setCell ⟨wr.heap.size,1,none⟩ (Value.slice Au (aU s.ak k).aH.length cu)).alloc (.cells #[.int .i64 (aU s.ak k).dW,Value.slice Au (aU s.ak k).aH.length cu] 42)):=jeh.alloc jeh.size _;have hu6:Own kP 4 44 ((W4.setCell ⟨wr.heap.size,1,none⟩ (Value.slice Au (aU s.ak k).aH.length cu)).alloc (.cells #[.int .i64 (aU s.ak k).dW,Value.slice Au (aU s.ak k).aH.length cu] 42)) W1.heap.size (Value.slice Au (aU s.ak k).aH.length cu) (aU s.ak k).aH:=
    ((hu'.O.kept (xA jqX.O 1 _).2 (.inr λhe=>by have:=(hu'.O.size _ he).1;omega)).alloc _).from_ (aY hbw.size hwa.size)
   have huf:∀g,Value.ownBlock (Value.slice Au (aU s.ak k).aH.length cu)=some g->wr.heap.size<=g:=λg hg=>by
    have:=(hu'.O.size g hg).1;omega
   have hlo:(zI (upTo s k).ak V.aH).length<=1000000:=by
    rw[uJ H7.O.llen];show(s.ak.take k).length<=1000000;rw[bT];omega
   have hBx6:jk ((W4.setCell ⟨wr.heap.size,1,none⟩ (Value.slice Au (aU s.ak k).aH.length cu)).alloc (.cells #[.int .i64 (aU s.ak k).dW,Value.slice Au (aU s.ak k).aH.length cu] 42)) b V:=(AZ.O.below hb16 AZ.O.lt);have hO6:=H7.O.below hb16;have jmv:=ah hBx6;clear hBx6;have hcn:=uF (W4.setCell ⟨wr.heap.size,1,none⟩ (Value.slice Au (aU s.ak k).aH.length cu)) #[.int .i64 (aU s.ak k).dW,Value.slice Au (aU s.ak k).aH.length cu] 42;rw[show(W4.setCell ⟨wr.heap.size,1,none⟩ (Value.slice Au (aU s.ak k).aH.length cu)).heap.size=W4.heap.size by simp[World.setCell]]at hcn
   refine lS _ rfl (.tmp 37) (.tmp 39) 27 42 rfl W1.heap.size _ 2 32 underlying27 O9 rfl (by decide) (by decide) V.ak (zI (upTo s k).ak V.aH) ((aU s.ak k).dW,Value.slice Au (aU s.ak k).aH.length cu) rfl hO6.ak ⟨W4.heap.size,0,none⟩ 1 rfl rfl hcn (ZJ _ rfl) hlo (aY hbw.size hb16.size) ?_
   intro v7 w7 yM LC Tc ET;have X6:=H7.O.KJ hb16 (x:=aU s.ak k) hu6 huf LC yM;have FV:jk w7 b V:=jmv.O.grown LC (λhe=>by
    rcases hO6.ak.mQ jmv.O.blk (by decide)with h|h
    ·rw[h]at he;cases he
    ·exact h he.symm)
   have QA:Below W1.heap.size W1 w7:=(hbw.trans (hb16.mono hbw.size)).trans ET;obtain⟨Av,cv,hv7⟩:=yM.isSlice;simp only[aZ,dw,dY,eY]at hv7
   subst hv7;obtain⟨vv,hvv⟩:∃x,x=Value.slice Av ((zI (upTo s k).ak V.aH).length+1) cv:=⟨_,rfl⟩;have Xw:=X6.box FV 1 vv;have Jm:=FV.Yu vv;rw[<- Ym hlt]at Xw
   have jaf:=QA.setCell (p:=⟨b,1,none⟩) hbb vv;rw[hvv]at Xw Jm jaf
   clear hvv vv;have jak:=ah Xw;have Oh:=ah Jm;have q1:=FV.cells.2.1;have qf:=FV.frozen 1;clear Xw Jm X6 FV hO6 yM LC Tc ET huf hu6 jaj jeh hb16 hb4 hwa hla hlo z0 z1 zf y1;go_wp2_with fail;go_roundw
   case rel=>exact⟨k+1,_,by omega,by go_num,jak.O,Oh.O,jaf⟩
   case measure=>simp[RowKit.intOf];omega
  ·obtain rfl:k=s.ak.length:=by omega
   rw[jaU]at H7
   have hR1:iV wr (w.heap.size+1) _ _:=hsE.O ▸ jji.O.below hbw hs1;have hfz:=hR1.frozen;obtain⟨b0,b1,b2,b3,b4,b5,b6⟩:=AZ.O.cells;have hone:V.cells.all (λu=>u.oneCell')=true:=by
    have h:=H7.O;simp[SV.cells,qO h.on,qO h.ak,qO h.aA,qO h.aF,qO h.gY,qO h.O,qO h.bg]
   have Qz:jk wr (w.heap.size+1) ⟨mJ,mJ,mJ,mJ,mJ,mJ,mJ,[],[]⟩:=hR1;clear hfz;go_wp2_with (refine dB (.tmp 2) (.tmp 43) _ V rfl Qz rfl hone (λw9 dM je=>?_))
   have wC:=H7.O.keptBy je Qz.blk (by decide) (by decide) (by decide) (by decide) (by decide) (by decide)
   obtain⟨p0,p1,p2,p3,p4,p5,p6⟩:=dM.cells;have hbz:w.heap.size<=w.heap.size+1:=by omega
   have bK:Below w.heap.size w w9:=hB.grown je hB.size (λk hk=>by injection hk with hk;omega)
   have hsB:w.heap.size<=W1.heap.size:=hB1.size;clear b0 b1 b2 b3 b4 b5 b6;go_wp2_with fail;exact fD (v:=V.val) (by simp[results,results61,go_sem,SV.val,p0,p1,p2,p3,p4,p5,p6]) rfl ⟨_,rfl,⟨V,rfl,wC.from_ hsB⟩,bK⟩
end Wh
namespace Wh
open Go Go.RowKit Go.Shelf Go.Proofs Tryz
attribute [local go_sem] aT
theorem jey(n:Int)(w:World):Calls prog 190 #[.int .i64 n] w λe w'=>e=.returned (.bool false)/\w=w':=by
 go_enter func190,ntmps190
 go_wp2
 go_ret
 exact⟨by simp,rfl⟩
theorem jez(a b:Int)(w:World):Calls prog 184 #[.int .i64 a,.int .i64 b] w λe w'=>e=.returned (.int .i64 (Tq a b))/\w=w':=by
 rcases MQ a b with⟨h1,h2⟩|⟨h1,h2⟩|⟨h1,h2⟩
 ·go_enter func184,ntmps184
  go_wp2_with (go_at_call 190;refine(jey _ _).mono ?_;rintro e w' ⟨rfl,rfl⟩)
  go_ret
  exact⟨iF h2.symm,rfl⟩
 ·go_enter func184,ntmps184
  go_wp2_with (go_at_call 190;refine(jey _ _).mono ?_;rintro e w' ⟨rfl,rfl⟩)
  go_ret
  exact⟨iF h2.symm,rfl⟩
 ·subst h1;go_enter func184,ntmps184
  go_wp2_with (go_at_call 190;refine(jey _ _).mono ?_;rintro e w' ⟨rfl,rfl⟩)
  go_ret
  exact⟨iF h2.symm,rfl⟩
def or3(a b c:Int):Int:=if a≠0 then a else if b≠0 then b else c
theorem jsl(a b c:Int)(w:World)(bl off k:Nat)(h0:w.cell? ⟨bl,off,none⟩=some (.int .i64 a))(h1:w.cell? ⟨bl,off+1,none⟩=some (.int .i64 b))(h2:w.cell? ⟨bl,off+2,none⟩=some (.int .i64 c)):
  Calls prog 183 #[.slice (some ⟨bl,off,none⟩) 3 k] w λe w'=>e=.returned (.int .i64 (or3 a b c))/\w=w':=by
 by_cases ha:a=0
 ·subst ha;by_cases hb:b=0
  ·subst hb;have bK:or3 0 0 c=c:=by simp[or3]
   by_cases hc:c=0
   ·subst hc;go_enter func183,ntmps183
    go_wp2_with fail;refine yF 4 ?_
    rw[nX];go_wp2_with fail;rw[nX];go_wp2_with fail;rw[nX];go_wp2_with fail;rw[nX];go_wp2_with fail;go_ret
    exact⟨iF bK.symm,rfl⟩
   ·have hc':(c !=0)=true:=by simpa using hc
    go_enter func183,ntmps183
    go_wp2_with fail;refine yF 4 ?_
    rw[nX];go_wp2_with fail;rw[nX];go_wp2_with fail;rw[nX];go_wp2_with fail;go_ret
    exact⟨iF bK.symm,rfl⟩
  ·have bK:or3 0 b c=b:=by simp[or3,hb]
   have hb':(b !=0)=true:=by simpa using hb
   go_enter func183,ntmps183
   go_wp2_with fail;refine yF 4 ?_
   rw[nX];go_wp2_with fail;rw[nX];go_wp2_with fail;go_ret
   exact⟨iF bK.symm,rfl⟩
 ·have bK:or3 a b c=a:=by simp[or3,ha]
  have ha':(a !=0)=true:=by simpa using ha
  go_enter func183,ntmps183
  go_wp2_with fail;refine yF 4 ?_
  rw[nX];go_wp2_with fail;go_ret
  exact⟨iF bK.symm,rfl⟩
theorem Pg(a b:dZ)(w:World):Calls prog 167 #[um a,um b] w λe w'=>e=.returned (.int .i64 (ord a b))/\Below w.heap.size w w':=by
 unfold um;go_enter func167,ntmps167
 go_wp2_with fail;go_region_held3 (λw'=>w'.cell? ⟨w.heap.size,0,none⟩=some (.int .i64 a.aC)/\w'.cell? ⟨w.heap.size,1,none⟩=some (.int .i64 a.aG)/\w'.cell? ⟨w.heap.size,2,none⟩=some (.int .i64 a.bin)/\
  w'.cell? ⟨w.heap.size+1,0,none⟩=some (.int .i64 b.aC)/\w'.cell? ⟨w.heap.size+1,1,none⟩=some (.int .i64 b.aG)/\w'.cell? ⟨w.heap.size+1,2,none⟩=some (.int .i64 b.bin)) (first|go_keep)
  (first
  |(go_at_call 184;refine(jez _ _ _).mono ?_;rintro e w' ⟨rfl,rfl⟩)
  |(go_at_call 183;refine(jsl (Tq a.aC b.aC) (Tq a.aG b.aG) (Tq a.bin b.bin) _ _ _ _ (by go_simp) (by go_simp) (by go_simp)).mono ?_;rintro e w' ⟨rfl,rfl⟩))
 go_wp2_with fail;go_ret
 exact⟨rfl,((((aj _ _).alloc (au _) _).alloc (by simp) _).alloc (by simp;omega) _).drew⟩
theorem Fh(h:dZ)(w:World)(hk:sD h.aC h.aG h.bin):Calls prog 125 #[um h] w λe w'=>e=.returned (.int .i64 (fP h))/\Below w.heap.size w w':=by
 obtain⟨⟨a1,a2⟩,⟨b1,b2⟩,⟨c1,c2⟩⟩:=hk;unfold um;go_enter func125,ntmps125
 go_wp2
 go_ret
 exact⟨rfl,(aj _ _).alloc (au _) _⟩
theorem jeo(h:dZ):(cZ h.aC 0 3=false/\lH h=false)\/(cZ h.aC 0 3=true/\cZ h.aG 0 2=false/\lH h=false)\/
  (cZ h.aC 0 3=true/\cZ h.aG 0 2=true/\cZ h.bin 0 5=false/\lH h=false)\/(cZ h.aC 0 3=true/\cZ h.aG 0 2=true/\cZ h.bin 0 5=true/\lH h=cZ h.n 1 200):=by
 unfold lH;cases cZ h.aC 0 3<;>cases cZ h.aG 0 2<;>cases cZ h.bin 0 5<;>simp
theorem OY(h:dZ)(w:World):Calls prog 151 #[um h] w λe w'=>e=.returned (.bool (lH h))/\Below w.heap.size w w':=by
 unfold um;rcases jeo h with⟨g1,hf⟩|⟨g1,g2,hf⟩|⟨g1,g2,g3,hf⟩|⟨g1,g2,g3,hf⟩
 all_goals
  go_enter func151,ntmps151
  go_wp2_with (go_at_call 38;refine(oH _ _ _ _).mono ?_;rintro e w' ⟨rfl,rfl⟩)
  go_ret
  exact⟨fK hf.symm,(aj _ _).alloc (au _) _⟩
end Wh
namespace Wh
open Go Go.RowKit Go.Shelf Go.Proofs Tryz
attribute [local go_sem] aT
theorem jdX(h:dZ):(min (min h.aC h.aG) h.bin<0/\lH h=false)\/(0<=min (min h.aC h.aG) h.bin/\4<=h.aC/\lH h=false)\/
  (0<=min (min h.aC h.aG) h.bin/\h.aC<4/\3<=h.aG/\lH h=false)\/(0<=min (min h.aC h.aG) h.bin/\h.aC<4/\h.aG<3/\6<=h.bin/\lH h=false)\/
  (0<=min (min h.aC h.aG) h.bin/\h.aC<4/\h.aG<3/\h.bin<6/\h.n<1/\lH h=false)\/(0<=min (min h.aC h.aG) h.bin/\h.aC<4/\h.aG<3/\h.bin<6/\1<=h.n/\200<h.n/\lH h=false)\/
  (0<=min (min h.aC h.aG) h.bin/\h.aC<4/\h.aG<3/\h.bin<6/\1<=h.n/\h.n<=200/\lH h=true):=by
 have hi:=@nI h;unfold sD at hi
 cases hf:lH h
 ·rw[hf]at hi
  simp only[iE,vg]at hi
  simp only[mD,reduceCtorEq,qm,ny];omega
 ·rw[hf]at hi
  simp only[uG]at hi
  simp only[mD,reduceCtorEq,qm,wY];omega
theorem WB(h:dZ)(w:World):Calls prog 164 #[um h] w λe w'=>e=.returned (.bool (lH h))/\Below w.heap.size w w':=by
 unfold um;rcases jdX h with⟨g1,hf⟩|⟨g1,g2,hf⟩|⟨g1,g2,g3,hf⟩|⟨g1,g2,g3,g4,hf⟩|⟨g1,g2,g3,g4,g5,hf⟩|⟨g1,g2,g3,g4,g5,g6,hf⟩|⟨g1,g2,g3,g4,g5,g6,hf⟩
 all_goals
  have hf':=ah hf;clear hf;go_enter func164,ntmps164
  go_wp2
  all_goals
   go_ret
   exact⟨fK (by rw[hf'.O]<;>first|rfl|(simp<;>omega)),(aj _ _).alloc (au _) _⟩
def BO(l:List dZ)(k:Nat):Bool:=lH (hold l k)&&(decide (k=0)||decide (fP (hold l (k - 1))<fP (hold l k)))
theorem Mc{l:List dZ}{k:Nat}(hk:k<l.length)(h:BO l k=false):lT l=1:=by
 unfold lT;rw[ay];intro hc;have:=aX.1 hc k (gZ.2 hk);unfold BO at h
 rw[h]at this
 cases this
theorem YU{l:List dZ}(h:∀k,k<l.length->BO l k=true):lT l=0:=by
 unfold lT;rw[aB];exact aX.2 λk hk=>h k (gZ.1 hk)
theorem Yq{l:List dZ}{k:Nat}(h:BO l k=true):lH (hold l k)=true:=by
 unfold BO at h
 simp only[bG]at h
 exact h.1
theorem jeN{l:List dZ}{k:Nat}(h:lH (hold l k)=false):BO l k=false:=by
 unfold BO;rw[h];rfl
theorem Yo{l:List dZ}(h:lH (hold l 0)=true):BO l 0=true:=by
 unfold BO;rw[h];rfl
theorem Yp{l:List dZ}{k:Nat}(h:lH (hold l (k+1))=true):BO l (k+1)=decide (fP (hold l k)<fP (hold l (k+1))):=by
 unfold BO;rw[h];simp
theorem jgW{l:List dZ}{k:Nat}(h:lH (hold l (k+1))=true)(h0:lH (hold l k)=true):BO l (k+1)=decide (ord (hold l k) (hold l (k+1))<0):=by
 rw[Yp h];congr 1
 rw[O1 (nI.1 h0).1 (nI.1 h).1]
theorem UW(w:World)(v:Value)(l:List dZ)(hv:Sl ig w w.heap.size v l):
  Calls prog 136 #[v] w λe w'=>e=.returned (.int .i64 (lT l))/\Below w.heap.size w w':=by
 obtain⟨A,c,rfl,hl,hA⟩:=hv;go_enter func136,ntmps136
 go_wp2_with fail;go_loopw[7,3,4] (λi _ _ wr=>∃k:Nat,k<=l.length/\i=.int .i64 k/\(∀j,j<k->BO l j=true)/\Below w.heap.size w wr) (λi _ _ _=>l.length - (RowKit.intOf i).toNat)
 case atStart=>exact⟨0,aK _,rfl,λj hj=>by omega,aj _ _⟩
 case round=>
  obtain⟨k,hk,rfl,kE,hbw⟩:=hrel;by_cases hlt:k<l.length
  ·obtain⟨hok,LG,b0,b1,b2,b3⟩:=(hA.up hbw hbw.size).hold hlt;have hba:Below w.heap.size w (wr.alloc (.cells #[.int .i64 (hold l k).aC,.int .i64 (hold l k).aG,.int .i64 (hold l k).bin,.int .i64 (hold l k).n] 46)):=hbw.alloc hbw.size _;have q0:=λo d os=>bY (w:=wr.alloc (.cells #[.int .i64 (hold l k).aC,.int .i64 (hold l k).aG,.int .i64 (hold l k).bin,.int .i64 (hold l k).n] 46)) (b:=wr.heap.size) (by simp) o d os
   cases hf:lH (hold l k)
   ·go_wp2_with fail;refine dG (by kernel_rfl) (by kernel_rfl) ?_
    repeat(go_big_quiet_step ((go_at_call 164;refine gI (WB (hold l k) _))))
    refine wpQuiet_nil ?_
    intro W2 hw';have hb2:=dD hw';clear hw';go_wp2_with fail;go_ret
    exact⟨iF (Mc hlt (jeN hf)).symm,hba.trans (hb2.mono hba.size)⟩
   ·rcases k with _|m
    ·have hst:=Yo hf;simp only[DU,jB]at b0 b1 b2 b3
     go_wp2_with fail;refine dG (by kernel_rfl) (by kernel_rfl) ?_
     repeat(go_big_quiet_step ((go_at_call 164;refine gI (WB (hold l 0) _))))
     refine wpQuiet_nil ?_
     intro W2 hw';have hb2:=dD hw';clear hw';go_wp2_with fail;go_roundw
     case rel=>exact⟨1,by omega,by go_num,λj hj=>by(obtain rfl:j=0:=by omega);exact hst,hba.trans (hb2.mono hba.size)⟩
     case measure=>simp[RowKit.intOf];omega
    ·obtain⟨_,_,c0,c1,c2,c3⟩:=(hA.up hbw hbw.size).hold (show m<l.length by omega)
     have qA:=λo d os=>bY (w:=wr.alloc (.cells #[.int .i64 (hold l (m+1)).aC,.int .i64 (hold l (m+1)).aG,.int .i64 (hold l (m+1)).bin,.int .i64 (hold l (m+1)).n] 46)) (b:=jd A) (by simp;omega) o d os
     have hst:=jgW hf (Yq (kE m (by omega)))
     by_cases ho:ord (hold l m) (hold l (m+1))<0
     ·have hst':=ah (show BO l (m+1)=true by rw[hst];simpa using ho)
      clear hst;go_wp2_with fail;refine dG (by kernel_rfl) (by kernel_rfl) ?_
      repeat(go_big_quiet_step ((first|(go_at_call 164;refine gI (WB (hold l (m+1)) _))|(go_at_call 167;refine gI (Pg (hold l m) (hold l (m+1)) _)))))
      refine wpQuiet_nil ?_
      intro W2 hw';have hb2:=dD hw';clear hw';go_wp2_with fail;go_roundw
      case rel=>
       refine⟨m+2,by omega,by go_num,λj hj=>?_,hba.trans (hb2.mono hba.size)⟩
       rcases aS.1 hj with h|rfl
       ·exact kE j h
       ·exact hst'.O
      case measure=>simp[RowKit.intOf];omega
     ·have hst':=ah (show BO l (m+1)=false by rw[hst];simpa using ho)
      have ho':0<=ord (hold l m) (hold l (m+1)):=by omega
      clear hst ho;go_wp2_with fail;refine dG (by kernel_rfl) (by kernel_rfl) ?_
      repeat(go_big_quiet_step ((first|(go_at_call 164;refine gI (WB (hold l (m+1)) _))|(go_at_call 167;refine gI (Pg (hold l m) (hold l (m+1)) _)))))
      refine wpQuiet_nil ?_
      intro W2 hw';have hb2:=dD hw';clear hw';go_wp2_with fail;go_ret
      exact⟨iF (Mc hlt hst'.O).symm,hba.trans (hb2.mono hba.size)⟩
  ·obtain rfl:k=l.length:=by omega
   have bK:=ah (YU kE);go_wp2_with fail;go_ret
   exact⟨iF bK.O.symm,hbw⟩
theorem jbd(w:World)(v:Value)(l:List dZ)(hv:Sl ig w w.heap.size v l):
  Calls prog 90 #[v] w λe w'=>e=.returned (.int .i64 (lT l))/\Below w.heap.size w w':=by
 obtain⟨A,c,rfl,hl,hA⟩:=hv;go_enter func90,ntmps90
 go_wp2_with fail;go_loopw[3] (λi wr=>∃k:Nat,k<=l.length/\i=.int .i64 k/\(∀j,j<k->BO l j=true)/\Below w.heap.size w wr) (λi _=>l.length - (RowKit.intOf i).toNat)
 case atStart=>exact⟨0,aK _,rfl,λj hj=>by omega,aj _ _⟩
 case round=>
  obtain⟨k,hk,rfl,kE,hbw⟩:=hrel;by_cases hlt:k<l.length
  ·obtain⟨hok,LG,b0,b1,b2,b3⟩:=(hA.up hbw hbw.size).hold hlt;have qA:=λo d os=>bY (w:=wr) (b:=jd A) LG o d os
   cases hf:lH (hold l k)
   ·go_wp2_with fail;refine dG (by kernel_rfl) (by kernel_rfl) ?_
    repeat(go_big_quiet_step ((go_at_call 151;refine gI (OY (hold l k) _))))
    refine wpQuiet_nil ?_
    intro W2 hw';have hb2:=dD hw';clear hw';go_wp2_with fail;go_ret
    exact⟨iF (Mc hlt (jeN hf)).symm,hbw.trans (hb2.mono hbw.size)⟩
   ·rcases k with _|m
    ·have hst:=Yo hf;simp only[DU,jB]at b0 b1 b2 b3
     go_wp2_with fail;refine dG (by kernel_rfl) (by kernel_rfl) ?_
     repeat(go_big_quiet_step ((go_at_call 151;refine gI (OY (hold l 0) _))))
     refine wpQuiet_nil ?_
     intro W2 hw';have hb2:=dD hw';clear hw';go_wp2_with fail;go_roundw
     case rel=>exact⟨1,by omega,by go_num,λj hj=>by(obtain rfl:j=0:=by omega);exact hst,hbw.trans (hb2.mono hbw.size)⟩
     case measure=>simp[RowKit.intOf];omega
    ·obtain⟨_,_,c0,c1,c2,c3⟩:=(hA.up hbw hbw.size).hold (show m<l.length by omega)
     have hst:=Yp hf;have hk0:=(nI.1 (Yq (kE m (by omega)))).1
     have hk1:=(nI.1 hf).1;have hK0:=ah hk0;have hK1:=ah hk1;clear hk0 hk1;by_cases ho:fP (hold l m)<fP (hold l (m+1))
     ·have hst':=ah (show BO l (m+1)=true by rw[hst];simpa using ho)
      clear hst;go_wp2_with fail;refine dG (by kernel_rfl) (by kernel_rfl) ?_
      repeat(go_big_quiet_step ((first|(go_at_call 151;refine gI (OY (hold l (m+1)) _))|(go_at_call 125;refine gI (Fh _ _ (by first|exact hK0.O|exact hK1.O))))))
      refine wpQuiet_nil ?_
      intro W2 hw';have hb2:=dD hw';clear hw';go_wp2_with fail;go_roundw
      case rel=>
       refine⟨m+2,by omega,by go_num,λj hj=>?_,hbw.trans (hb2.mono hbw.size)⟩
       rcases aS.1 hj with h|rfl
       ·exact kE j h
       ·exact hst'.O
      case measure=>simp[RowKit.intOf];omega
     ·have hst':=ah (show BO l (m+1)=false by rw[hst];simpa using ho)
      have ho':fP (hold l (m+1))<=fP (hold l m):=by omega
      clear hst ho;go_wp2_with fail;refine dG (by kernel_rfl) (by kernel_rfl) ?_
      repeat(go_big_quiet_step ((first|(go_at_call 151;refine gI (OY (hold l (m+1)) _))|(go_at_call 125;refine gI (Fh _ _ (by first|exact hK0.O|exact hK1.O))))))
      refine wpQuiet_nil ?_
      intro W2 hw';have hb2:=dD hw';clear hw';go_wp2_with fail;go_ret
      exact⟨iF (Mc hlt hst'.O).symm,hbw.trans (hb2.mono hbw.size)⟩
  ·obtain rfl:k=l.length:=by omega
   have bK:=ah (YU kE);go_wp2_with fail;go_ret
   exact⟨iF bK.O.symm,hbw⟩
end Wh
