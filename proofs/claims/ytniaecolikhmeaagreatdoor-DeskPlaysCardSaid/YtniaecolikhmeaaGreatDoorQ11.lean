/- Texts of the claim, joined. -/
import Derived.Deep.RegionLaw
import Derived.Test.YtniaecolikhmeaaGreatDoorQ09
set_option maxHeartbeats 20000000
set_option maxRecDepth 100000
set_option linter.all false
namespace Wh
open Go Go.RowKit Go.Shelf Go.Proofs Tryz
section
attribute [local go_sem] aV
theorem X3{α:Type}(enc:α->List Value)(l:List α)(k:Nat):(l.eraseIdx k).flatMap enc=(l.take k).flatMap enc++(l.drop (k+1)).flatMap enc:=by
 rw[nV,gQ]
theorem yJ:Elem prog 116 (.agg #[zI,zI,zI,zI]) 4 32:=Ls (by kernel_rfl)
theorem zQ(x:eX):∀u∈iD x,u.oneCell'=true:=by simp[iD,Value.oneCell']
theorem MP(w:World)(v:Value)(l:List eX)(hv:Sl iD w w v l)(hn:l.length<=1000000):
  Calls prog 143 #[v] w (Gives (λu w'=>Own iD 4 116 w' w u l) w):=by
 obtain⟨A,c,rfl,hl,hA⟩:=hv;have qT:∀(w:World) (a:Option Addr) (n c n' c':Nat),(binOp .eql 37 (.slice a n c) (.slice none n' c')).run prog w=.ok (.bool a.isNone) w:=λw a n c n' c'=>Lib.run_eql_slice_nil w _ _ a n c n' c' underlying37
 cases A with
 |none=>
  have h0:l=[]:=by
   cases l with
   |nil=>rfl
   |cons x r=>exact absurd (hA.ok (by simp[iD])) (by rintro⟨b,off,h⟩;cases h)
  subst h0;go_enter func143,ntmps143
  go_wp2_with (at_builtin;refine bD ?_)
  go_ret
  exact⟨_,rfl,Own.nil,aj _ _⟩
 |some ad=>
  go_enter func143,ntmps143
  go_wp2_with (at_builtin;refine bD ?_)
  unfold Hid;refine yH _ rfl (.tmp 5) (.tmp 6) 37 116 rfl w.heap.size _ 4 32 underlying37 yJ rfl (by decide) (by decide) (.slice (some w) 0 0) ([]:List eX) l rfl (Own.Xg w _ (ay _)) (some ad) c w rfl (λ_=>rfl)
   (hA.up ((aj _ _).alloc (ay _) _) (ay _)) (λy=>zQ y) (by simpa using hn) (by simp) ?_
  intro v1 w1 yK hg1 jc6 Gt;go_wp2_with fail;go_ret
  exact⟨_,rfl,by simpa using yK,((aj _ _).alloc (ay _) _).trans Gt⟩
theorem jbH(w:World):(zeroValue 116).run prog w=.ok (.agg #[zI,zI,zI,zI]) w:=by kernel_rfl
theorem jmo(w:World)(aT:Nat)(v:Value)(l:List eX)(k:Nat)(mQ:Own iD 4 116 w aT v l)(hk:k<l.length)(hn:l.length<=1000000):
  Calls prog 152 #[v,k,.int .i64 ((k:Int)+1)] w λe w'=>
   ∃v',e=.returned v'/\Own iD 4 116 w' aT v' (l.eraseIdx k)/\w.grownBy w' v.ownBlock/\v'.ownBlock=v.ownBlock:=by
 obtain⟨g,cap,cur,rfl,hbg,hg,hlc,hcm,hcs,htake⟩:=mQ.row (by omega)
 obtain⟨i0,hi0,hz0,kX,jjP⟩:=yJ;have hk4:∀x,(iD x).length=4:=λ_=>rfl
 obtain⟨cs,XG⟩:∃cs,cs=(l.drop (k+1)).flatMap iD:=⟨_,rfl⟩;have hcl:cs.length=(l.length - (k+1))*4:=by rw[XG,lU iD 4 hk4,jv]
 have hc1:∀u∈cs,u.oneCell'=true:=λu hu=>by
  rw[XG]at hu
  obtain⟨y,_,hy⟩:=oL.1 hu;exact zQ y u hy
 obtain⟨A,hA,hsrc⟩:∃A:Addr,(if cap=k+1 then some (⟨g,0,none⟩:Addr)else some ⟨g,(k+1)*4,none⟩)=some A/\Hid (∀j u,cs[j]?=some u->w.drew.cell? (A.add j)=some u):=by
  by_cases h:cap=k+1
  ·refine⟨g,by rw[aB h],λj u hj=>?_⟩
   have:=(fA.1 hj).1
   omega
  ·refine⟨⟨g,(k+1)*4,none⟩,by rw[au h],λj u hj=>?_⟩
   rw[gy];refine hg.drew.cell ?_
   have hjl:=(fA.1 hj).1
   have e1:(cur.take (l.length*4))[(k+1)*4+j]?=some u:=by
    rw[htake,<- mP,JH iD 4 hk4,<- XG]
    exact hj
   rw[jG]at e1
   split at e1
   ·exact e1
   ·cases e1
 have hzl:∀n,(Builtin.zeroCells #[zI,zI,zI,zI] n).toList.length=n*4:=λn=>by rw[oP];exact yx _ n
 have hcur:l.length*4<=cur.length:=by rw[hcs];exact kE _ hlc
 have hrun:∀ty,(Builtin.append_ #[37,37] ty #[.slice (some g) k cap,.slice (some A) (l.length - (k+1)) (cap - (k+1))]).run prog w.drew=
   .ok (.slice (some g) (k+(l.length - (k+1))) cap) (w.drew.setRow g (spl cur (k*4) cs).toArray):=λty=>by
  have h:=Ox (P:=prog) w.drew 37 ty 116 i0 underlying37 hi0 g k cap (.slice (some A) (l.length - (k+1)) (cap - (k+1))) (l.length - (k+1)) cs cur hg.drew rfl
   (by rw[kX];exact qQ w.drew 4 _ A _ _ cs hcl hsrc.O) (by omega) (by rw[kX,hcl];omega) hc1
  rw[kX]at h
  exact h
 obtain⟨W1,hW1⟩:∃W1,W1=w.drew.setRow g (spl cur (k*4) cs).toArray:=⟨_,rfl⟩;rw[<- hW1]at hrun
 have hg1:iJ W1 g 116 (spl cur (k*4) cs):=by rw[hW1];exact hg.drew.row _
 have hl1:(spl cur (k*4) cs).length=cur.length:=Aa (by rw[hcl];omega)
 have jjO:∀ty,(Builtin.clear_ #[37] ty #[.slice (some ⟨g,(k+(l.length - (k+1)))*4,none⟩) (l.length - (k+(l.length - (k+1)))) (cap - (k+(l.length - (k+1))))]).run prog W1=
   .ok (.tuple #[]) (W1.setRow g (spl (spl cur (k*4) cs) ((k+(l.length - (k+1)))*4) (Builtin.zeroCells #[zI,zI,zI,zI] (l.length - (k+(l.length - (k+1))))).toList).toArray):=λty=>
  LG (P:=prog) W1 37 116 ty _ underlying37 jbH (by simp[Value.cells,Value.oneCell']) g _ _ _ _ hg1 (by omega) (by rw[hl1];simp[Value.cells];omega)
 have dw:∃jbp,iJ (W1.setRow g (spl (spl cur (k*4) cs) ((k+(l.length - (k+1)))*4) (Builtin.zeroCells #[zI,zI,zI,zI] (l.length - (k+(l.length - (k+1))))).toList).toArray) g 116 jbp/\jbp.length=cap*4/\jbp.take ((l.eraseIdx k).length*4)=(l.eraseIdx k).flatMap iD:=by
  refine⟨_,hg1.row _,?_,?_⟩
  ·rw[Aa (by rw[hl1,hzl];omega),hl1,hcs]
  ·have e1:(l.eraseIdx k).length*4=(k+(l.length - (k+1)))*4:=by rw[qE,aB hk];omega
   rw[e1,jar (by rw[hl1];omega)]
   have e2:(k+(l.length - (k+1)))*4=k*4+cs.length:=by rw[hcl,jS]
   rw[e2,jas (by omega),X3,XG]
   congr 1
   have e3:cur.take (k*4)=(cur.take (l.length*4)).take (k*4):=by rw[oG,jK (by omega)]
   rw[e3,htake,Ic iD 4 hk4]
 have hgr:w.grownBy (W1.setRow g (spl (spl cur (k*4) cs) ((k+(l.length - (k+1)))*4) (Builtin.zeroCells #[zI,zI,zI,zI] (l.length - (k+(l.length - (k+1))))).toList).toArray) (some g):=by
  rw[hW1];have g1:=wL w.drew g (spl cur (k*4) cs).toArray;have g2:=wL (w.drew.setRow g (spl cur (k*4) cs).toArray) g (spl (spl cur (k*4) cs) ((k+(l.length - (k+1)))*4) (Builtin.zeroCells #[zI,zI,zI,zI] (l.length - (k+(l.length - (k+1))))).toList).toArray;exact⟨g2.os.trans g1.os,g2.tape.trans g1.tape,g2.output.trans g1.output,aU g1.size g2.size,λq hq hne=>(g2.block q (aJ hq g1.size) hne).trans (g1.block q hq hne)⟩
 obtain⟨W2,hW2⟩:∃W2,W2=W1.setRow g (spl (spl cur (k*4) cs) ((k+(l.length - (k+1)))*4) (Builtin.zeroCells #[zI,zI,zI,zI] (l.length - (k+(l.length - (k+1))))).toList).toArray:=⟨_,rfl⟩;rw[<- hW2]at jjO dw hgr
 have hlen2:(l.eraseIdx k).length=k+(l.length - (k+1)):=by rw[qE,aB hk];omega
 have XC:=ah dw;have joN:=ah hgr;have Xz:=ah hlen2;have hw1:IntKind.i64.wrap ((k:Int)+1)=(k:Int)+1:=by rw[jQ];omega
 have hkc:k<=cap:=by omega
 have juB:k+1<=cap:=by omega
 have hcm':cap<=9223372036854775807:=by unfold maxLen at hcm;omega
 have joV:=ah hcm;have joB:=ah hlc;have hkne:¬((k:Int)=(k:Int)+1):=by omega
 have hb1:(0:Int)<=(k:Int)+1:=by omega
 have hb2:(k:Int)+1<=(l.length:Int):=by omega
 have hb3:(k:Int)<=(l.length:Int):=by omega
 have htn:((k:Int)+1).toNat=k+1:=by omega
 have hl2:k+(l.length - (k+1))<l.length:=by omega
 have hl3:¬(cap=k+(l.length - (k+1))):=by omega
 clear XG hcm hi0 hg hcl hW1 hW2 hg1 hl1 dw hgr hlen2 hcs htake hcur hc1;go_enter func152,ntmps152
 go_wp2_with fail;go_region_law (refine sH _ rfl (.tmp 22) (.tmp 25) 37 37 rfl (.slice (some g) k cap) (.slice (some A) (l.length - (k+1)) (cap - (k+1))) (by simp[Act.eval,Act.put]) (by simp[Act.eval,Act.put]) (hrun _) ?_)
 go_wp2_with fail;go_ret
 obtain⟨jbp,c1,c2,c3⟩:=XC.O;refine⟨_,rfl,?_,joN.O,rfl⟩
 rw[<- Xz.O];exact Own.OA hk4 hbg c1 (by rw[Xz.O];have:=joB.O;omega) joV.O c2 c3
theorem Me:Elem prog 118 (.agg #[zI,zI,zI,zI]) 4 32:=Ls (by kernel_rfl)
theorem P6(x:Move):∀u∈oC x,u.oneCell'=true:=by simp[oC,Value.oneCell']
theorem jhA(w:World)(v:Value)(l:List Move)(hv:Sl oC w w v l)(hn:l.length<=1000000):
  Calls prog 144 #[v] w (Gives (λu w'=>Own oC 4 118 w' w u l) w):=by
 obtain⟨A,c,rfl,hl,hA⟩:=hv;have qT:∀(w:World) (a:Option Addr) (n c n' c':Nat),(binOp .eql 38 (.slice a n c) (.slice none n' c')).run prog w=.ok (.bool a.isNone) w:=λw a n c n' c'=>Lib.run_eql_slice_nil w _ _ a n c n' c' underlying38
 cases A with
 |none=>
  have h0:l=[]:=by
   cases l with
   |nil=>rfl
   |cons x r=>exact absurd (hA.ok (by simp[oC])) (by rintro⟨b,off,h⟩;cases h)
  subst h0;go_enter func144,ntmps144
  go_wp2_with (at_builtin;refine bD ?_)
  go_ret
  exact⟨_,rfl,Own.nil,aj _ _⟩
 |some ad=>
  go_enter func144,ntmps144
  go_wp2_with (at_builtin;refine bD ?_)
  unfold Hid;refine yH _ rfl (.tmp 5) (.tmp 6) 38 118 rfl w.heap.size _ 4 32 underlying38 Me rfl (by decide) (by decide) (.slice (some w) 0 0) ([]:List Move) l rfl (Own.Xg w _ (ay _)) (some ad) c w rfl (λ_=>rfl)
   (hA.up ((aj _ _).alloc (ay _) _) (ay _)) (λy=>P6 y) (by simpa using hn) (by simp) ?_
  intro v1 w1 yK hg1 jc6 Gt;go_wp2_with fail;go_ret
  exact⟨_,rfl,by simpa using yK,((aj _ _).alloc (ay _) _).trans Gt⟩
theorem jbG(w:World):(zeroValue 118).run prog w=.ok (.agg #[zI,zI,zI,zI]) w:=by kernel_rfl
theorem jmn(w:World)(aT:Nat)(v:Value)(l:List Move)(k:Nat)(mQ:Own oC 4 118 w aT v l)(hk:k<l.length)(hn:l.length<=1000000):
  Calls prog 107 #[v,k,.int .i64 ((k:Int)+1)] w λe w'=>
   ∃v',e=.returned v'/\Own oC 4 118 w' aT v' (l.eraseIdx k)/\w.grownBy w' v.ownBlock/\v'.ownBlock=v.ownBlock:=by
 obtain⟨g,cap,cur,rfl,hbg,hg,hlc,hcm,hcs,htake⟩:=mQ.row (by omega)
 obtain⟨i0,hi0,hz0,kX,jjP⟩:=Me;have hk4:∀x,(oC x).length=4:=λ_=>rfl
 obtain⟨cs,XG⟩:∃cs,cs=(l.drop (k+1)).flatMap oC:=⟨_,rfl⟩;have hcl:cs.length=(l.length - (k+1))*4:=by rw[XG,lU oC 4 hk4,jv]
 have hc1:∀u∈cs,u.oneCell'=true:=λu hu=>by
  rw[XG]at hu
  obtain⟨y,_,hy⟩:=oL.1 hu;exact P6 y u hy
 obtain⟨A,hA,hsrc⟩:∃A:Addr,(if cap=k+1 then some (⟨g,0,none⟩:Addr)else some ⟨g,(k+1)*4,none⟩)=some A/\Hid (∀j u,cs[j]?=some u->w.drew.cell? (A.add j)=some u):=by
  by_cases h:cap=k+1
  ·refine⟨g,by rw[aB h],λj u hj=>?_⟩
   have:=(fA.1 hj).1
   omega
  ·refine⟨⟨g,(k+1)*4,none⟩,by rw[au h],λj u hj=>?_⟩
   rw[gy];refine hg.drew.cell ?_
   have hjl:=(fA.1 hj).1
   have e1:(cur.take (l.length*4))[(k+1)*4+j]?=some u:=by
    rw[htake,<- mP,JH oC 4 hk4,<- XG]
    exact hj
   rw[jG]at e1
   split at e1
   ·exact e1
   ·cases e1
 have hzl:∀n,(Builtin.zeroCells #[zI,zI,zI,zI] n).toList.length=n*4:=λn=>by rw[oP];exact yx _ n
 have hcur:l.length*4<=cur.length:=by rw[hcs];exact kE _ hlc
 have hrun:∀ty,(Builtin.append_ #[38,38] ty #[.slice (some g) k cap,.slice (some A) (l.length - (k+1)) (cap - (k+1))]).run prog w.drew=
   .ok (.slice (some g) (k+(l.length - (k+1))) cap) (w.drew.setRow g (spl cur (k*4) cs).toArray):=λty=>by
  have h:=Ox (P:=prog) w.drew 38 ty 118 i0 underlying38 hi0 g k cap (.slice (some A) (l.length - (k+1)) (cap - (k+1))) (l.length - (k+1)) cs cur hg.drew rfl
   (by rw[kX];exact qQ w.drew 4 _ A _ _ cs hcl hsrc.O) (by omega) (by rw[kX,hcl];omega) hc1
  rw[kX]at h
  exact h
 obtain⟨W1,hW1⟩:∃W1,W1=w.drew.setRow g (spl cur (k*4) cs).toArray:=⟨_,rfl⟩;rw[<- hW1]at hrun
 have hg1:iJ W1 g 118 (spl cur (k*4) cs):=by rw[hW1];exact hg.drew.row _
 have hl1:(spl cur (k*4) cs).length=cur.length:=Aa (by rw[hcl];omega)
 have jjO:∀ty,(Builtin.clear_ #[38] ty #[.slice (some ⟨g,(k+(l.length - (k+1)))*4,none⟩) (l.length - (k+(l.length - (k+1)))) (cap - (k+(l.length - (k+1))))]).run prog W1=
   .ok (.tuple #[]) (W1.setRow g (spl (spl cur (k*4) cs) ((k+(l.length - (k+1)))*4) (Builtin.zeroCells #[zI,zI,zI,zI] (l.length - (k+(l.length - (k+1))))).toList).toArray):=λty=>
  LG (P:=prog) W1 38 118 ty _ underlying38 jbG (by simp[Value.cells,Value.oneCell']) g _ _ _ _ hg1 (by omega) (by rw[hl1];simp[Value.cells];omega)
 have dw:∃jbp,iJ (W1.setRow g (spl (spl cur (k*4) cs) ((k+(l.length - (k+1)))*4) (Builtin.zeroCells #[zI,zI,zI,zI] (l.length - (k+(l.length - (k+1))))).toList).toArray) g 118 jbp/\jbp.length=cap*4/\jbp.take ((l.eraseIdx k).length*4)=(l.eraseIdx k).flatMap oC:=by
  refine⟨_,hg1.row _,?_,?_⟩
  ·rw[Aa (by rw[hl1,hzl];omega),hl1,hcs]
  ·have e1:(l.eraseIdx k).length*4=(k+(l.length - (k+1)))*4:=by rw[qE,aB hk];omega
   rw[e1,jar (by rw[hl1];omega)]
   have e2:(k+(l.length - (k+1)))*4=k*4+cs.length:=by rw[hcl,jS]
   rw[e2,jas (by omega),X3,XG]
   congr 1
   have e3:cur.take (k*4)=(cur.take (l.length*4)).take (k*4):=by rw[oG,jK (by omega)]
   rw[e3,htake,Ic oC 4 hk4]
 have hgr:w.grownBy (W1.setRow g (spl (spl cur (k*4) cs) ((k+(l.length - (k+1)))*4) (Builtin.zeroCells #[zI,zI,zI,zI] (l.length - (k+(l.length - (k+1))))).toList).toArray) (some g):=by
  rw[hW1];have g1:=wL w.drew g (spl cur (k*4) cs).toArray;have g2:=wL (w.drew.setRow g (spl cur (k*4) cs).toArray) g (spl (spl cur (k*4) cs) ((k+(l.length - (k+1)))*4) (Builtin.zeroCells #[zI,zI,zI,zI] (l.length - (k+(l.length - (k+1))))).toList).toArray;exact⟨g2.os.trans g1.os,g2.tape.trans g1.tape,g2.output.trans g1.output,aU g1.size g2.size,λq hq hne=>(g2.block q (aJ hq g1.size) hne).trans (g1.block q hq hne)⟩
 obtain⟨W2,hW2⟩:∃W2,W2=W1.setRow g (spl (spl cur (k*4) cs) ((k+(l.length - (k+1)))*4) (Builtin.zeroCells #[zI,zI,zI,zI] (l.length - (k+(l.length - (k+1))))).toList).toArray:=⟨_,rfl⟩;rw[<- hW2]at jjO dw hgr
 have hlen2:(l.eraseIdx k).length=k+(l.length - (k+1)):=by rw[qE,aB hk];omega
 have XC:=ah dw;have joN:=ah hgr;have Xz:=ah hlen2;have hw1:IntKind.i64.wrap ((k:Int)+1)=(k:Int)+1:=by rw[jQ];omega
 have hkc:k<=cap:=by omega
 have juB:k+1<=cap:=by omega
 have hcm':cap<=9223372036854775807:=by unfold maxLen at hcm;omega
 have joV:=ah hcm;have joB:=ah hlc;have hkne:¬((k:Int)=(k:Int)+1):=by omega
 have hb1:(0:Int)<=(k:Int)+1:=by omega
 have hb2:(k:Int)+1<=(l.length:Int):=by omega
 have hb3:(k:Int)<=(l.length:Int):=by omega
 have htn:((k:Int)+1).toNat=k+1:=by omega
 have hl2:k+(l.length - (k+1))<l.length:=by omega
 have hl3:¬(cap=k+(l.length - (k+1))):=by omega
 clear XG hcm hi0 hg hcl hW1 hW2 hg1 hl1 dw hgr hlen2 hcs htake hcur hc1;go_enter func107,ntmps107
 go_wp2_with fail;go_region_law (refine sH _ rfl (.tmp 22) (.tmp 25) 38 38 rfl (.slice (some g) k cap) (.slice (some A) (l.length - (k+1)) (cap - (k+1))) (by simp[Act.eval,Act.put]) (by simp[Act.eval,Act.put]) (hrun _) ?_)
 go_wp2_with fail;go_ret
 obtain⟨jbp,c1,c2,c3⟩:=XC.O;refine⟨_,rfl,?_,joN.O,rfl⟩
 rw[<- Xz.O];exact Own.OA hk4 hbg c1 (by rw[Xz.O];have:=joB.O;omega) joV.O c2 c3
theorem OJ:Elem prog 106 (.agg #[zI,zI,zI,zI]) 4 32:=Ls (by kernel_rfl)
theorem jaL(x:Line):∀u∈mX x,u.oneCell'=true:=by simp[mX,Value.oneCell']
theorem jab(w:World)(v:Value)(l:List Line)(hv:Sl mX w w v l)(hn:l.length<=1000000):
  Calls prog 98 #[v] w (Gives (λu w'=>Own mX 4 106 w' w u l) w):=by
 obtain⟨A,c,rfl,hl,hA⟩:=hv;have qT:∀(w:World) (a:Option Addr) (n c n' c':Nat),(binOp .eql 79 (.slice a n c) (.slice none n' c')).run prog w=.ok (.bool a.isNone) w:=λw a n c n' c'=>Lib.run_eql_slice_nil w _ _ a n c n' c' underlying79
 cases A with
 |none=>
  have h0:l=[]:=by
   cases l with
   |nil=>rfl
   |cons x r=>exact absurd (hA.ok (by simp[mX])) (by rintro⟨b,off,h⟩;cases h)
  subst h0;go_enter func98,ntmps98
  go_wp2_with (at_builtin;refine bD ?_)
  go_ret
  exact⟨_,rfl,Own.nil,aj _ _⟩
 |some ad=>
  go_enter func98,ntmps98
  go_wp2_with (at_builtin;refine bD ?_)
  unfold Hid;refine yH _ rfl (.tmp 5) (.tmp 6) 79 106 rfl w.heap.size _ 4 32 underlying79 OJ rfl (by decide) (by decide) (.slice (some w) 0 0) ([]:List Line) l rfl (Own.Xg w _ (ay _)) (some ad) c w rfl (λ_=>rfl)
   (hA.up ((aj _ _).alloc (ay _) _) (ay _)) (λy=>jaL y) (by simpa using hn) (by simp) ?_
  intro v1 w1 yK hg1 jc6 Gt;go_wp2_with fail;go_ret
  exact⟨_,rfl,by simpa using yK,((aj _ _).alloc (ay _) _).trans Gt⟩
end
section
attribute [local go_sem] aV jF iY jI
theorem Qc:Elem prog 114 (.agg #[zI,nS]) 2 32:=Ls (by kernel_rfl)
theorem jaK(x:Int×Value)(h:x.2.oneCell'=true):∀u∈Oj x,u.oneCell'=true:=by
 intro u hu;simp only[Oj,fF,mg,lC]at hu
 rcases hu with rfl|rfl
 ·rfl
 ·exact h
theorem qP{α:Type}{enc:α->List Value}{size:Nat}{e:TypeId}{w:World}{aT:Nat}{v:Value}{l:List α}(h:Own enc size e w aT v l):v.oneCell'=true:=by
 obtain⟨A,c,rfl⟩:=h.isSlice;rfl
theorem jd0{s:aI}{k:Nat}(h:k<s.ak.length):s.ak.take (k+1)=s.ak.take k++[bK s.ak k]:=by
 rw[bM h,uO h]
def upTo(s:aI)(k:Nat):aI:={s with ak:=s.ak.take k}
theorem jbO(s:aI):upTo s s.ak.length=s:=by
 unfold upTo;rw[dR]
theorem Zc{s:aI}{k:Nat}(h:k<s.ak.length):upTo s (k+1)={upTo s k with ak:=(upTo s k).ak++[bK s.ak k]}:=by
 unfold upTo;simp only;rw[jd0 h]
theorem jbV(w:World)(v:Value)(p:dG)(s:aI)(hv:kG w w v s)(hs:pz p s):
  Calls prog 94 #[v] w (Gives (λu w'=>∃V,u=V.val/\dX w' w V s) w):=by
 have h4:=hs.nX;have h8:=hs.uf;have h72:=qH hs.aA;have hcnt:=hs.counts;have zU:=ah hs;clear hs;obtain⟨A0,c0,A1,c1,A2,c2,A3,c3,A4,c4,A5,c5,A6,c6,rfl,hV,hN,hO,hH,hM,hI,hU,hX,hl0,hl1,hl2,hl3,hl4,hl5,Jb⟩:=lY hv;go_enter func94,ntmps94
 go_wp2_with fail;obtain⟨W0,hW0,hb0,kX,um,hsE,hK⟩:=KD w s A0 c0 A1 c1 A2 c2 A3 c3 A4 c4 A5 c5 A6 c6;rw[hW0];clear hW0;generalize hW1:W0.alloc _=W1;have hb1:Below W0 W0 W1:=by rw[<- hW1];exact(aj _ _).alloc (ay _) _
 have hs1:W0.heap.size<W1.heap.size:=by rw[<- hW1];simp
 have jkh:=ah (show iJ W1 W0 40 [nS,nS,nS,nS,nS,nS,nS]by rw[<- hW1];exact iJ.new _ _ _)
 clear hW1;have hB1:=fD hb0 hb1;have Jk:∀k,k<s.on.length->0<(fO s.on k).length/\(fO s.on k).length<=1000:=λk hk=>by
  have:=zU.O.rowLen (b:=k) (by rw[<- zU.O.sO];exact hk)
  omega
 have hon:s.on.length<=1000:=by rw[zU.O.sO];omega
 have jeO:=ah Jk;have jlZ:=ah zU.O.jf.1;have jlM:=ah zU.O.O.1;have Qp:=ah zU.O.dB.1;clear Jk;refine EU 20 [
  λg _=>g 6=.pointer (some w),λg _=>g 7=.slice A0 s.on.length c0,λg w'=>(λv w'=>∃gs,qN 23 3 w' W1 (v) s.on gs) (g 8) w',λg _=>g 9=.pointer (some ⟨w.heap.size,2,none⟩),λg _=>g 10=.slice A2 s.aA.length c2,λg w'=>Own iD 4 116 w' W1 (g 11) s.aA/\∃gs,qN 23 3 w' W1 (g 8) s.on gs,λg _=>g 12=.pointer (some ⟨w.heap.size,3,none⟩),λg _=>g 13=.slice A3 s.aF.length c3,λg w'=>Own oC 4 118 w' W1 (g 14) s.aF/\∃gs,qN 23 3 w' W1 (g 8) s.on gs,λg _=>g 15=.pointer (some ⟨w.heap.size,4,none⟩),λg _=>g 16=.slice A4 s.jf.length c4,λg w'=>He w' W1 s.on s.jf (g 8) (g 17),λg _=>g 18=.pointer (some ⟨w.heap.size,5,none⟩),λg _=>g 19=.slice A5 s.O.length c5,λg w'=>G9 w' W1 s.on s.jf s.O (g 8) (g 17) (g 20),λg _=>g 21=.pointer (some ⟨w.heap.size,6,none⟩),λg _=>g 22=.slice A6 s.dB.length c6,λg w'=>GZ w' W1 s.on s.jf s.O s.dB (g 8) (g 17) (g 20) (g 23),λg _=>g 24=.agg #[g 8,nS,g 11,g 14,g 17,g 20,g 23],λg w'=>(λv w'=>∃b,v=.pointer (some ⟨b,0,none⟩)/\W1.heap.size<=b/\jB w' b ⟨mM,mM,mM,mM,mM,mM,mM,[],[]⟩) (g 3) w'] (by kernel_rfl) (by kernel_rfl) rfl (by kernel_rfl) ?_ (λf w2 hb2 hR=>?_)
 simp only[aG,aS];refine bT.v (λg w' hb ho hd=>?_) ?_
 ·have e1:=ho 1 rfl;go_simp
 refine bT.v (λg w' hb ho hd=>?_) ?_
 ·have e1:_=_:=hd.d 0;obtain⟨_,x0,x1,x2,x3,x4,x5,x6,_⟩:=hK.O w' (fD hb1 hb);go_simp
 refine bT.cons (sN.one (d:=8) (p:=(λv w'=>∃gs,qN 23 3 w' W1 (v) s.on gs)) rfl rfl (λv w1 w2 h hb=>h.elim λgs h=>⟨gs,h.below hb⟩) (λg w' hb ho hd=>?_)) ?_
 ·have e1:_=_:=hd.d 1;unfold iq;go_simp
  refine(jh8 w' _ s.on (hN.O w' (fD hB1 hb)) hon jeO.O).mono ?_
  rintro e w2 ⟨u,rfl,⟨gs,h⟩,hb2⟩;exact⟨u,rfl,⟨gs,h.from_ hb.size⟩,hb2⟩
 refine bT.v (λg w' hb ho hd=>?_) ?_
 ·have e1:=ho 1 rfl;go_simp
 refine bT.v (λg w' hb ho hd=>?_) ?_
 ·have e1:_=_:=hd.d 3;obtain⟨_,x0,x1,x2,x3,x4,x5,x6,_⟩:=hK.O w' (fD hb1 hb);go_simp
 refine bT.cons (⟨λg w1 w2 h hb=>⟨h.1.below hb,h.2.elim λgs h=>⟨gs,h.below hb⟩⟩,λg g' w1 he h=>?_,λg w' hb ho hd=>?_⟩) ?_
 ·have e0:=he 2 _ 8 (.eU (i:=5) (e:=⟨2,.chain⟩) rfl (by simp) rfl rfl (.self 2)) rfl rfl
  have e2:=he 5 _ 11 (.self 5) rfl rfl;simp only[e0,e2]at h
  exact h
 ·have e1:_=_:=hd.d 4;have e2:∃gs,qN 23 3 w' W1 (g 8) s.on gs:=hd ⟨2,.chain⟩ (by simp) rfl (by decide)
  have e2':=ah e2;clear e2;unfold iq;go_simp
  refine(MP w' _ s.aA (hH.O w' (fD hB1 hb)) (by omega)).mono ?_
  rintro e w2 ⟨u,rfl,h,hb2⟩;have dw:Own iD 4 116 w2 W1 (u) s.aA/\∃gs,qN 23 3 w2 W1 (g 8) s.on gs:=⟨h.from_ hb.size,e2'.O.elim λgs h=>⟨gs,h.below hb2⟩⟩
  exact⟨u,rfl,by simpa[xB,upd]using dw,hb2⟩
 refine bT.v (λg w' hb ho hd=>?_) ?_
 ·have e1:=ho 1 rfl;go_simp
 refine bT.v (λg w' hb ho hd=>?_) ?_
 ·have e1:_=_:=hd.d 6;obtain⟨_,x0,x1,x2,x3,x4,x5,x6,_⟩:=hK.O w' (fD hb1 hb);go_simp
 refine bT.cons (⟨λg w1 w2 h hb=>⟨h.1.below hb,h.2.elim λgs h=>⟨gs,h.below hb⟩⟩,λg g' w1 he h=>?_,λg w' hb ho hd=>?_⟩) ?_
 ·have e0:=he 2 _ 8 (.eU (i:=8) (e:=⟨5,.chain⟩) rfl (by simp) rfl rfl (.eU (i:=5) (e:=⟨2,.chain⟩) rfl (by simp) rfl rfl (.self 2))) rfl rfl
  have e3:=he 8 _ 14 (.self 8) rfl rfl;simp only[e0,e3]at h
  exact h
 ·have e1:_=_:=hd.d 7;have e2:Own iD 4 116 w' W1 (g 11) s.aA/\∃gs,qN 23 3 w' W1 (g 8) s.on gs:=hd ⟨5,.chain⟩ (by simp) rfl (by decide)
  have e2':=ah e2;clear e2;unfold iq;go_simp
  refine(jhA w' _ s.aF (hM.O w' (fD hB1 hb)) (by omega)).mono ?_
  rintro e w2 ⟨u,rfl,h,hb2⟩;have dw:Own oC 4 118 w2 W1 (u) s.aF/\∃gs,qN 23 3 w2 W1 (g 8) s.on gs:=⟨h.from_ hb.size,e2'.O.2.elim λgs h=>⟨gs,h.below hb2⟩⟩
  exact⟨u,rfl,by simpa[xB,upd]using dw,hb2⟩
 refine bT.v (λg w' hb ho hd=>?_) ?_
 ·have e1:=ho 1 rfl;go_simp
 refine bT.v (λg w' hb ho hd=>?_) ?_
 ·have e1:_=_:=hd.d 9;obtain⟨_,x0,x1,x2,x3,x4,x5,x6,_⟩:=hK.O w' (fD hb1 hb);go_simp
 refine bT.cons (⟨λg w1 w2 h hb=>h.below hb,λg g' w1 he h=>?_,λg w' hb ho hd=>?_⟩) ?_
 ·have e0:=he 2 _ 8 (.eU (i:=11) (e:=⟨8,.chain⟩) rfl (by simp) rfl rfl (.eU (i:=8) (e:=⟨5,.chain⟩) rfl (by simp) rfl rfl (.eU (i:=5) (e:=⟨2,.chain⟩) rfl (by simp) rfl rfl (.self 2)))) rfl rfl
  have e4:=he 11 _ 17 (.self 11) rfl rfl;simp only[e0,e4]at h
  exact h
 ·have e1:_=_:=hd.d 10;have e2:Own oC 4 118 w' W1 (g 14) s.aF/\∃gs,qN 23 3 w' W1 (g 8) s.on gs:=hd ⟨8,.chain⟩ (by simp) rfl (by decide)
  have e2':=ah e2;clear e2;unfold iq;go_simp
  refine(Tz w' _ s.jf (hI.O w' (fD hB1 hb)) (by rw[jlZ.O];omega)).mono ?_
  rintro e w2 ⟨u,rfl,h,hb2⟩;have dw:He w2 W1 s.on s.jf (g 8) u:=e2'.O.2.elim λgs h8=>He.of h8 hb.size hb2 h
  exact⟨u,rfl,by simpa[xB,upd]using dw,hb2⟩
 refine bT.v (λg w' hb ho hd=>?_) ?_
 ·have e1:=ho 1 rfl;go_simp
 refine bT.v (λg w' hb ho hd=>?_) ?_
 ·have e1:_=_:=hd.d 12;obtain⟨_,x0,x1,x2,x3,x4,x5,x6,_⟩:=hK.O w' (fD hb1 hb);go_simp
 refine bT.cons (⟨λg w1 w2 h hb=>h.below hb,λg g' w1 he h=>?_,λg w' hb ho hd=>?_⟩) ?_
 ·have e0:=he 2 _ 8 (.eU (i:=14) (e:=⟨11,.chain⟩) rfl (by simp) rfl rfl (.eU (i:=11) (e:=⟨8,.chain⟩) rfl (by simp) rfl rfl (.eU (i:=8) (e:=⟨5,.chain⟩) rfl (by simp) rfl rfl (.eU (i:=5) (e:=⟨2,.chain⟩) rfl (by simp) rfl rfl (.self 2))))) rfl rfl
  have e4:=he 11 _ 17 (.eU (i:=14) (e:=⟨11,.chain⟩) rfl (by simp) rfl rfl (.self 11)) rfl rfl
  have e5:=he 14 _ 20 (.self 14) rfl rfl;simp only[e0,e4,e5]at h
  exact h
 ·have e1:_=_:=hd.d 13;have e2:He w' W1 s.on s.jf (g 8) (g 17):=hd ⟨11,.chain⟩ (by simp) rfl (by decide)
  have e2':=ah e2;clear e2;unfold iq;go_simp
  refine(Tz w' _ s.O (hU.O w' (fD hB1 hb)) (by rw[jlM.O];omega)).mono ?_
  rintro e w2 ⟨u,rfl,h,hb2⟩;have dw:G9 w2 W1 s.on s.jf s.O (g 8) (g 17) u:=G9.of e2'.O hb.size hb2 h;exact⟨u,rfl,by simpa[xB,upd]using dw,hb2⟩
 refine bT.v (λg w' hb ho hd=>?_) ?_
 ·have e1:=ho 1 rfl;go_simp
 refine bT.v (λg w' hb ho hd=>?_) ?_
 ·have e1:_=_:=hd.d 15;obtain⟨_,x0,x1,x2,x3,x4,x5,x6,_⟩:=hK.O w' (fD hb1 hb);go_simp
 refine bT.cons (⟨λg w1 w2 h hb=>h.below hb,λg g' w1 he h=>?_,λg w' hb ho hd=>?_⟩) ?_
 ·have e0:=he 2 _ 8 (.eU (i:=17) (e:=⟨14,.chain⟩) rfl (by simp) rfl rfl (.eU (i:=14) (e:=⟨11,.chain⟩) rfl (by simp) rfl rfl (.eU (i:=11) (e:=⟨8,.chain⟩) rfl (by simp) rfl rfl (.eU (i:=8) (e:=⟨5,.chain⟩) rfl (by simp) rfl rfl (.eU (i:=5) (e:=⟨2,.chain⟩) rfl (by simp) rfl rfl (.self 2)))))) rfl rfl
  have e4:=he 11 _ 17 (.eU (i:=17) (e:=⟨14,.chain⟩) rfl (by simp) rfl rfl (.eU (i:=14) (e:=⟨11,.chain⟩) rfl (by simp) rfl rfl (.self 11))) rfl rfl
  have e5:=he 14 _ 20 (.eU (i:=17) (e:=⟨14,.chain⟩) rfl (by simp) rfl rfl (.self 14)) rfl rfl
  have e6:=he 17 _ 23 (.self 17) rfl rfl;simp only[e0,e4,e5,e6]at h
  exact h
 ·have e1:_=_:=hd.d 16;have e2:G9 w' W1 s.on s.jf s.O (g 8) (g 17) (g 20):=hd ⟨14,.chain⟩ (by simp) rfl (by decide)
  have e2':=ah e2;clear e2;unfold iq;go_simp
  refine(Tz w' _ s.dB (hX.O w' (fD hB1 hb)) (by rw[Qp.O];omega)).mono ?_
  rintro e w2 ⟨u,rfl,h,hb2⟩;have dw:GZ w2 W1 s.on s.jf s.O s.dB (g 8) (g 17) (g 20) u:=GZ.of e2'.O hb.size hb2 h;exact⟨u,rfl,by simpa[xB,upd]using dw,hb2⟩
 refine bT.cons (⟨λg w1 w2 h hb=>h,λg g' w1 he h=>?_,λg w' hb ho hd=>?_⟩) ?_
 ·have es:=he 18 _ 24 (.self 18) rfl rfl;have e0:=he 2 _ 8 (.eU (i:=18) (e:=⟨2,.data⟩) rfl (by simp) rfl rfl (.self 2)) rfl rfl
  have e2:=he 5 _ 11 (.eU (i:=18) (e:=⟨5,.data⟩) rfl (by simp) rfl rfl (.self 5)) rfl rfl
  have e3:=he 8 _ 14 (.eU (i:=18) (e:=⟨8,.data⟩) rfl (by simp) rfl rfl (.self 8)) rfl rfl
  have e4:=he 11 _ 17 (.eU (i:=18) (e:=⟨11,.data⟩) rfl (by simp) rfl rfl (.self 11)) rfl rfl
  have e5:=he 14 _ 20 (.eU (i:=18) (e:=⟨14,.data⟩) rfl (by simp) rfl rfl (.self 14)) rfl rfl
  have e6:=he 17 _ 23 (.eU (i:=18) (e:=⟨17,.data⟩) rfl (by simp) rfl rfl (.self 17)) rfl rfl
  change g' 24=.agg #[g' 8,nS,g' 11,g' 14,g' 17,g' 20,g' 23];rw[<- es,<- e0,<- e2,<- e3,<- e4,<- e5,<- e6];exact h
 ·obtain⟨B0,d0,s0⟩:∃A c,g 8=.slice A s.on.length c:=(hd.d 2:∃gs,qN 23 3 w' W1 (g 8) s.on gs).elim λgs h=>h.isSlice
  obtain⟨B2,d2,s2⟩:=(hd.d 5:Own iD 4 116 w' W1 (g 11) s.aA/\∃gs,qN 23 3 w' W1 (g 8) s.on gs).1.isSlice;obtain⟨B3,d3,s3⟩:=(hd.d 8:Own oC 4 118 w' W1 (g 14) s.aF/\∃gs,qN 23 3 w' W1 (g 8) s.on gs).1.isSlice;obtain⟨B4,d4,s4⟩:=(hd.d 11:He w' W1 s.on s.jf (g 8) (g 17)).isSlice;obtain⟨B5,d5,s5⟩:=(hd.d 14:G9 w' W1 s.on s.jf s.O (g 8) (g 17) (g 20)).isSlice;obtain⟨B6,d6,s6⟩:=(hd.d 17:GZ w' W1 s.on s.jf s.O s.dB (g 8) (g 17) (g 20) (g 23)).isSlice;unfold iq;go_simp
  exact⟨by simp[xB,upd,s0,s2,s3,s4,s5,s6],aj _ _⟩
 refine bT.cons (sN.one (d:=3) (p:=(λv w'=>∃b,v=.pointer (some ⟨b,0,none⟩)/\W1.heap.size<=b/\jB w' b ⟨mM,mM,mM,mM,mM,mM,mM,[],[]⟩)) rfl rfl (λv w1 w2 h hb=>h.elim λb h=>⟨b,h.1,h.2.1,h.2.2.below hb h.2.2.lt⟩) (λg w' hb ho hd=>?_)) ?_
 ·unfold iq;go_simp
  exact⟨⟨hb.size,iJ.new _ _ _⟩,(aj _ _).alloc (ay _) _⟩
 exact bT.nil;obtain⟨r0,r1,r2,r3,r4,r5,r6,r7,r8,r9,r10,r11,r12,r13,TK,r15,r16,WM,r18,⟨b,r19,hbb,H9⟩,_⟩:=hR;simp only[kP,qJ,aG,aS,bU,dH,bY,cO,dA,dL,aQ,bG,bH,r0,r1,r3,r4,r6,r7,r9,r10,r12,r13,r15,r16,r18,r19];obtain⟨B0,d0,s0⟩:=WM.jcJ;obtain⟨B2,d2,s2⟩:=r5.1.isSlice;obtain⟨B3,d3,s3⟩:=r8.1.isSlice;obtain⟨B4,d4,s4⟩:=r11.isSlice;obtain⟨B5,d5,s5⟩:=TK.isSlice;obtain⟨B6,d6,s6⟩:=WM.isSlice;obtain⟨vs,mQ⟩:=WM.made r5.1 r8.1;simp only[s0,s2,s3,s4,s5,s6]at mQ ⊢
 have hO2:=ah mQ;clear mQ s0 s2 s3 s4 s5 s6;clear r0 r1 r2 r3 r4 r5 r6 r7 r8 r9 r10 r11 r12 r13 TK r15 r16 WM r18 r19;refine dU (.tmp 3) (.tmp 24) _ ⟨.slice B0 s.on.length d0,mM,.slice B2 s.aA.length d2,.slice B3 s.aF.length d3,.slice B4 s.jf.length d4,.slice B5 s.O.length d5,.slice B6 s.dB.length d6,vs,[]⟩ rfl H9 rfl rfl (λw3 OW hg3=>?_)
 have hbw:Below W1 W1 w3:=hb2.grown hg3 hb2.size (λk hk=>by injection hk with hk;omega)
 have hO3:dX w3 W1 ⟨.slice B0 s.on.length d0,mM,.slice B2 s.aA.length d2,.slice B3 s.aF.length d3,.slice B4 s.jf.length d4,.slice B5 s.O.length d5,.slice B6 s.dB.length d6,vs,[]⟩ (upTo s 0):=
  hO2.O.keptBy hg3 H9.blk
 have jkb:=ah hO3;have Jd:=ah OW;clear hO3 hO2 H9 OW hg3 hb2;have jc0:=fD hb1 hbw;obtain⟨_,x0,x1,x2,x3,x4,x5,x6,_⟩:=hK.O w3 jc0;refine eP ?_
 go_wp2_with fail;go_loopw[28,5] (λi _ wr=>∃(k:Nat) (V:SV),k<=s.ak.length/\i=.int .i64 k/\dX wr W1.heap.size V (upTo s k)/\jB wr b V/\Below W1.heap.size W1 wr) (λi _ _=>s.ak.length - (RowKit.intOf i).toNat)
 case atStart=>exact⟨0,_,aN _,rfl,jkb.O,Jd.O,hbw⟩
 case round=>
  clear x0 x1 x2 x3 x4 x5 x6 hbw jc0 jkb Jd;obtain⟨k,V,hk,rfl,hOw,hbx,hbw⟩:=hrel;have Jf:=ah hOw;have EP:=ah hbx;clear hOw hbx;have hB:=fD hB1 hbw;have jc0:=fD hb1 hbw;by_cases hlt:k<s.ak.length
  ·obtain⟨A',c',I8,Gv,e0,e1,hsl⟩:=(hO.O wr hB).aC hlt;obtain⟨l1,l3⟩:=zU.O.rE hlt;change 1<=(bK s.ak k).aH.length at l1
   change(bK s.ak k).aH.length<=3 at l3
   have hwa:Below wr wr (wr.alloc (.cells #[.int .i64 (bK s.ak k).eH,.slice A' (bK s.ak k).aH.length c'] 114)):=(aj _ _).alloc (ay _) _;have hla:wr.heap.size<(wr.alloc (.cells #[.int .i64 (bK s.ak k).eH,.slice A' (bK s.ak k).aH.length c'] 114)).heap.size:=by simp
   have hob:iJ (wr.alloc (.cells #[.int .i64 (bK s.ak k).eH,.slice A' (bK s.ak k).aH.length c'] 114)) wr 114 [.int .i64 (bK s.ak k).eH,.slice A' (bK s.ak k).aH.length c']:=iJ.new _ _ _;have jha:=ah hob;clear hob;go_wp2_with fail;clear e0 e1;refine(jab _ _ (bK s.ak k).aH (hsl.grow hwa) (by omega)).mono ?_
   rintro e W4 ⟨u,rfl,hu,hb4⟩;generalize hWa:wr.alloc (.cells #[.int .i64 (bK s.ak k).eH,.slice A' (bK s.ak k).aH.length c'] 114)=Wa at hwa hla jha hu hb4
   clear hWa hsl;obtain⟨Au,cu,rfl⟩:=hu.isSlice;have jbc:=fD hwa hb4;have jjn:=jha.O.below hb4 hla;have jrK:=ah jjn;have hu':=ah hu;have z0:=jjn.cell (j:=0) rfl;have z1:=jjn.cell (j:=1) rfl;have zf:=jjn.frozen 1;have jpk:=EP.O.below jbc EP.O.lt;have y1:=jpk.cells.2.1;have hbne:b≠wr.heap.size:=Nat.ne_of_lt EP.O.lt;have hbne':wr.heap.size≠b:=λe=>hbne e.symm
   have hBx4':=ah jpk;clear jjn hu jpk jha;go_wp2_with (first|(at_builtin;refine bD ?_)|fail)
   unfold Hid;have jfd:Below wr wr (W4.setCell ⟨wr.heap.size,1,none⟩ (Value.slice Au (bK s.ak k).aH.length cu)):=jbc.setCell (ay _) _;have hb16:Below wr wr ((W4.setCell ⟨wr.heap.size,1,none⟩ (Value.slice Au (bK s.ak k).aH.length cu)).alloc (.cells #[.int .i64 (bK s.ak k).eH,Value.slice Au (bK s.ak k).aH.length cu] 114)):=jfd.alloc jfd.size _;have hu6:Own mX 4 106 ((W4.setCell ⟨wr.heap.size,1,none⟩ (Value.slice Au (bK s.ak k).aH.length cu)).alloc (.cells #[.int .i64 (bK s.ak k).eH,Value.slice Au (bK s.ak k).aH.length cu] 114)) W1 (Value.slice Au (bK s.ak k).aH.length cu) (bK s.ak k).aH:=
    ((hu'.O.kept (Az jrK.O 1 _).2 (.inr λhe=>by have:=(hu'.O.size _ he).1;omega)).alloc _).from_ (aU hbw.size hwa.size)
   have huf:∀g,Value.ownBlock (Value.slice Au (bK s.ak k).aH.length cu)=some g->wr.heap.size<=g:=λg hg=>by
    have:=(hu'.O.size g hg).1;omega
   have hlo:(AV (upTo s k).ak V.aH).length<=1000000:=by
    rw[vg Jf.O.llen];show(s.ak.take k).length<=1000000;rw[bC];omega
   have hBx6:jB ((W4.setCell ⟨wr.heap.size,1,none⟩ (Value.slice Au (bK s.ak k).aH.length cu)).alloc (.cells #[.int .i64 (bK s.ak k).eH,Value.slice Au (bK s.ak k).aH.length cu] 114)) b V:=(EP.O.below hb16 EP.O.lt);have hO6:=Jf.O.below hb16;have jnC:=ah hBx6;clear hBx6;have hcn:=Dc (W4.setCell ⟨wr.heap.size,1,none⟩ (Value.slice Au (bK s.ak k).aH.length cu)) #[.int .i64 (bK s.ak k).eH,Value.slice Au (bK s.ak k).aH.length cu] 114;rw[show(W4.setCell ⟨wr.heap.size,1,none⟩ (Value.slice Au (bK s.ak k).aH.length cu)).heap.size=W4.heap.size by simp[World.setCell]]at hcn
   refine jV _ rfl (.tmp 37) (.tmp 39) 36 114 rfl W1.heap.size _ 2 32 underlying36 Qc rfl (by decide) (by decide) V.ak (AV (upTo s k).ak V.aH) ((bK s.ak k).eH,Value.slice Au (bK s.ak k).aH.length cu) rfl hO6.ak W4 1 rfl rfl hcn (jaK _ rfl) hlo (aU hbw.size hb16.size) ?_
   intro v7 w7 zk UU Um FY;have YU:=Jf.O.L9 hb16 (x:=bK s.ak k) hu6 huf UU zk;have G5:jB w7 b V:=jnC.O.grown UU (λhe=>by
    rcases hO6.ak.qy jnC.O.blk (by decide)with h|h
    ·rw[h]at he;cases he
    ·exact h he.symm)
   have Ru:Below W1 W1 w7:=(fD hbw hb16).trans FY;obtain⟨Av,cv,hv7⟩:=zk.isSlice;simp only[aX,bP,dQ,fM]at hv7
   subst hv7;obtain⟨vv,hvv⟩:∃x,x=Value.slice Av ((AV (upTo s k).ak V.aH).length+1) cv:=⟨_,rfl⟩;have Yr:=YU.box G5 1 vv;have Kq:=G5.Zm vv;rw[<- Zc hlt]at Yr
   have ja8:=Ru.setCell (p:=⟨b,1,none⟩) hbb vv;rw[hvv]at Yr Kq ja8
   clear hvv vv;have jbe:=ah Yr;have O1:=ah Kq;have q1:=G5.cells.2.1;have qf:=G5.frozen 1;clear Yr Kq YU G5 hO6 zk UU Um FY huf hu6 jbc jfd hb16 hb4 hwa hla hlo z0 z1 zf y1;go_wp2_with fail;go_roundw
   case rel=>exact⟨k+1,_,by omega,by go_num,jbe.O,O1.O,ja8⟩
   case measure=>simp[dY];omega
  ·obtain rfl:k=s.ak.length:=by omega
   rw[jbO]at Jf
   have hR1:iJ wr (w.heap.size+1) _ _:=hsE.O ▸ jkh.O.below hbw hs1;have hfz:=hR1.frozen;obtain⟨b0,b1,b2,b3,b4,b5,b6⟩:=EP.O.cells;have hone:V.cells.all (λu=>u.oneCell')=true:=by
    have h:=Jf.O;simp[SV.cells,qP h.on,qP h.ak,qP h.aA,qP h.aF,qP h.jf,qP h.O,qP h.dB]
   have jjQ:jB wr (w.heap.size+1) ⟨mM,mM,mM,mM,mM,mM,mM,[],[]⟩:=hR1;clear hfz;go_wp2_with (refine dU (.tmp 2) (.tmp 43) _ V rfl jjQ rfl hone (λw9 dS jg=>?_))
   have wO:=Jf.O.keptBy jg jjQ.blk;obtain⟨p0,p1,p2,p3,p4,p5,p6⟩:=dS.cells;have hbz:w.heap.size<=w.heap.size+1:=by omega
   have dw:Below w w w9:=hB.grown jg hB.size (λk hk=>by injection hk with hk;omega)
   have hsB:w.heap.size<=W1.heap.size:=hB1.size;clear b0 b1 b2 b3 b4 b5 b6;go_wp2_with fail;exact bV (v:=V.val) (by simp[results,results94,go_sem,SV.val,p0,p1,p2,p3,p4,p5,p6]) rfl ⟨_,rfl,⟨V,rfl,wO.from_ hsB⟩,dw⟩
end
section
attribute [local go_sem] aV jF iY jI
theorem jaF{α:Type}{enc:α->List Value}{size:Nat}{e:TypeId}{w:World}{aT:Nat}{v:Value}{l:List α}(h:Own enc size e w aT v l){row:Option Nat}(hn:∀g,aT<=g->some g≠row):v.ownBlock=none\/v.ownBlock≠row:=by
 cases hv:v.ownBlock with
 |none=>exact .inl rfl
 |some g=>exact .inr (hn g (h.size g hv).1)
theorem FM(w:World)(v:Value)(p:dG)(s:aI)(hv:kG w w v s)(hs:pz p s):
  Calls prog 118 #[v] w (Gives (λu w'=>∃V,u=V.val/\dX w' w V s) w):=by
 have h4:=hs.nX;have h8:=hs.uf;have h72:=qH hs.aA;have hcnt:=hs.counts;have zU:=ah hs;clear hs;obtain⟨A0,c0,A1,c1,A2,c2,A3,c3,A4,c4,A5,c5,A6,c6,rfl,hV,hN,hO,hH,hM,hI,hU,hX,hl0,hl1,hl2,hl3,hl4,hl5,Jb⟩:=lY hv;go_enter func118,ntmps118
 go_wp2_with fail;obtain⟨W0,hW0,hb0,kX,um,hsE,hK⟩:=KD w s A0 c0 A1 c1 A2 c2 A3 c3 A4 c4 A5 c5 A6 c6;rw[hW0];clear hW0;generalize hW1:W0.alloc _=W1;have hb1:Below W0 W0 W1:=by rw[<- hW1];exact(aj _ _).alloc (ay _) _
 have hs1:W0.heap.size<W1.heap.size:=by rw[<- hW1];simp
 have jkh:=ah (show iJ W1 W0 40 [nS,nS,nS,nS,nS,nS,nS]by rw[<- hW1];exact iJ.new _ _ _)
 clear hW1;have hB1:=fD hb0 hb1;have Jk:∀k,k<s.on.length->0<(fO s.on k).length/\(fO s.on k).length<=1000:=λk hk=>by
  have:=zU.O.rowLen (b:=k) (by rw[<- zU.O.sO];exact hk)
  omega
 have hon:s.on.length<=1000:=by rw[zU.O.sO];omega
 have jeO:=ah Jk;have jlZ:=ah zU.O.jf.1;have jlM:=ah zU.O.O.1;have Qp:=ah zU.O.dB.1;clear Jk;refine EU 25 [
  λg _=>g 5=.pointer (some w),λg _=>g 6=.slice A0 s.on.length c0,λg w'=>(λv w'=>∃gs,qN 23 3 w' W1 (v) s.on gs) (g 7) w',λg w'=>(λv w'=>∃b,v=.slice (some ⟨b,0,none⟩) 0 0/\W1.heap.size<=b/\iJ w' b 116 []) (g 8) w',λg _=>g 9=.pointer (some ⟨w.heap.size,2,none⟩),λg _=>g 10=.slice A2 s.aA.length c2,λg w'=>Own iD 4 116 w' W1 (g 11) s.aA/\∃gs,qN 23 3 w' W1 (g 7) s.on gs,λg w'=>(λv w'=>∃b,v=.slice (some ⟨b,0,none⟩) 0 0/\W1.heap.size<=b/\iJ w' b 118 []) (g 12) w',λg _=>g 13=.pointer (some ⟨w.heap.size,3,none⟩),λg _=>g 14=.slice A3 s.aF.length c3,λg w'=>Own oC 4 118 w' W1 (g 15) s.aF/\∃gs,qN 23 3 w' W1 (g 7) s.on gs,λg w'=>(λv w'=>∃b,v=.slice (some ⟨b,0,none⟩) 0 0/\W1.heap.size<=b/\iJ w' b 3 []) (g 16) w',λg _=>g 17=.pointer (some ⟨w.heap.size,4,none⟩),λg _=>g 18=.slice A4 s.jf.length c4,λg w'=>He w' W1 s.on s.jf (g 7) (g 19),λg w'=>(λv w'=>∃b,v=.slice (some ⟨b,0,none⟩) 0 0/\W1.heap.size<=b/\iJ w' b 3 []) (g 20) w',λg _=>g 21=.pointer (some ⟨w.heap.size,5,none⟩),λg _=>g 22=.slice A5 s.O.length c5,λg w'=>G9 w' W1 s.on s.jf s.O (g 7) (g 19) (g 23),λg w'=>(λv w'=>∃b,v=.slice (some ⟨b,0,none⟩) 0 0/\W1.heap.size<=b/\iJ w' b 3 []) (g 24) w',λg _=>g 25=.pointer (some ⟨w.heap.size,6,none⟩),λg _=>g 26=.slice A6 s.dB.length c6,λg w'=>GZ w' W1 s.on s.jf s.O s.dB (g 7) (g 19) (g 23) (g 27),λg _=>g 28=.agg #[g 7,nS,g 11,g 15,g 19,g 23,g 27],λg w'=>(λv w'=>∃b,v=.pointer (some ⟨b,0,none⟩)/\W1.heap.size<=b/\jB w' b ⟨mM,mM,mM,mM,mM,mM,mM,[],[]⟩) (g 3) w'] (by kernel_rfl) (by kernel_rfl) rfl (by kernel_rfl) ?_ (λf w2 hb2 hR=>?_)
 simp only[aG,aS];refine bT.v (λg w' hb ho hd=>?_) ?_
 ·have e1:=ho 1 rfl;go_simp
 refine bT.v (λg w' hb ho hd=>?_) ?_
 ·have e1:_=_:=hd.d 0;obtain⟨_,x0,x1,x2,x3,x4,x5,x6,_⟩:=hK.O w' (fD hb1 hb);go_simp
 refine bT.cons (sN.one (d:=7) (p:=(λv w'=>∃gs,qN 23 3 w' W1 (v) s.on gs)) rfl rfl (λv w1 w2 h hb=>h.elim λgs h=>⟨gs,h.below hb⟩) (λg w' hb ho hd=>?_)) ?_
 ·have e1:_=_:=hd.d 1;unfold iq;go_simp
  refine(jnT w' _ s.on (hN.O w' (fD hB1 hb)) hon jeO.O).mono ?_
  rintro e w2 ⟨u,rfl,⟨gs,h⟩,hb2⟩;exact⟨u,rfl,⟨gs,h.from_ hb.size⟩,hb2⟩
 refine bT.cons (sN.one (d:=8) (p:=(λv w'=>∃b,v=.slice (some ⟨b,0,none⟩) 0 0/\W1.heap.size<=b/\iJ w' b 116 [])) rfl rfl (λv w1 w2 h hb=>h.elim λb h=>⟨b,h.1,h.2.1,h.2.2.below hb h.2.2.lt⟩) (λg w' hb ho hd=>?_)) ?_
 ·unfold iq;go_simp
  exact⟨⟨hb.size,iJ.new _ _ _⟩,(aj _ _).alloc (ay _) _⟩
 refine bT.v (λg w' hb ho hd=>?_) ?_
 ·have e1:=ho 1 rfl;go_simp
 refine bT.v (λg w' hb ho hd=>?_) ?_
 ·have e1:_=_:=hd.d 4;obtain⟨_,x0,x1,x2,x3,x4,x5,x6,_⟩:=hK.O w' (fD hb1 hb);go_simp
 refine bT.cons (⟨λg w1 w2 h hb=>⟨h.1.below hb,h.2.elim λgs h=>⟨gs,h.below hb⟩⟩,λg g' w1 he h=>?_,λg w' hb ho hd=>?_⟩) ?_
 ·have e0:=he 2 _ 7 (.eU (i:=6) (e:=⟨2,.chain⟩) rfl (by simp) rfl rfl (.self 2)) rfl rfl
  have e2:=he 6 _ 11 (.self 6) rfl rfl;simp only[e0,e2]at h
  exact h
 ·have e1:_=_:=hd.d 5;have e2:∃gs,qN 23 3 w' W1 (g 7) s.on gs:=hd ⟨2,.chain⟩ (by simp) rfl (by decide)
  have e2':=ah e2;clear e2;obtain⟨bb,e3,hbb,Dz⟩:∃b,g 8=.slice (some ⟨b,0,none⟩) 0 0/\W1.heap.size<=b/\iJ w' b 116 []:=hd.d 3;have hAt:=(hH.O w' (fD hB1 hb)).at_;obtain⟨u,w2,hr,hb2,h0,h⟩:=wF (P:=prog) w' 37 37 116 _ 4 32 underlying37 yJ rfl (by decide) (by decide) bb Dz s.aA A2 c2 w' (λ_=>rfl) hAt (by omega)
  unfold iq;simp only[execOp,resolve,invoke,builtin,jF,e1,e3,iP,jc,gY,kC,dJ,lD,hr];have dw:Own iD 4 116 w2 W1 (u) s.aA/\∃gs,qN 23 3 w2 W1 (g 7) s.on gs:=⟨h0.from_ hbb,e2'.O.elim λgs h=>⟨gs,h.below hb2⟩⟩
  exact⟨by simpa[xB,upd]using dw,hb2⟩
 refine bT.cons (sN.one (d:=12) (p:=(λv w'=>∃b,v=.slice (some ⟨b,0,none⟩) 0 0/\W1.heap.size<=b/\iJ w' b 118 [])) rfl rfl (λv w1 w2 h hb=>h.elim λb h=>⟨b,h.1,h.2.1,h.2.2.below hb h.2.2.lt⟩) (λg w' hb ho hd=>?_)) ?_
 ·unfold iq;go_simp
  exact⟨⟨hb.size,iJ.new _ _ _⟩,(aj _ _).alloc (ay _) _⟩
 refine bT.v (λg w' hb ho hd=>?_) ?_
 ·have e1:=ho 1 rfl;go_simp
 refine bT.v (λg w' hb ho hd=>?_) ?_
 ·have e1:_=_:=hd.d 8;obtain⟨_,x0,x1,x2,x3,x4,x5,x6,_⟩:=hK.O w' (fD hb1 hb);go_simp
 refine bT.cons (⟨λg w1 w2 h hb=>⟨h.1.below hb,h.2.elim λgs h=>⟨gs,h.below hb⟩⟩,λg g' w1 he h=>?_,λg w' hb ho hd=>?_⟩) ?_
 ·have e0:=he 2 _ 7 (.eU (i:=10) (e:=⟨6,.chain⟩) rfl (by simp) rfl rfl (.eU (i:=6) (e:=⟨2,.chain⟩) rfl (by simp) rfl rfl (.self 2))) rfl rfl
  have e3:=he 10 _ 15 (.self 10) rfl rfl;simp only[e0,e3]at h
  exact h
 ·have e1:_=_:=hd.d 9;have e2:Own iD 4 116 w' W1 (g 11) s.aA/\∃gs,qN 23 3 w' W1 (g 7) s.on gs:=hd ⟨6,.chain⟩ (by simp) rfl (by decide)
  have e2':=ah e2;clear e2;obtain⟨bb,e3,hbb,Dz⟩:∃b,g 12=.slice (some ⟨b,0,none⟩) 0 0/\W1.heap.size<=b/\iJ w' b 118 []:=hd.d 7;have hAt:=(hM.O w' (fD hB1 hb)).at_;obtain⟨u,w2,hr,hb2,h0,h⟩:=wF (P:=prog) w' 38 38 118 _ 4 32 underlying38 Me rfl (by decide) (by decide) bb Dz s.aF A3 c3 w' (λ_=>rfl) hAt (by omega)
  unfold iq;simp only[execOp,resolve,invoke,builtin,jF,e1,e3,iP,jc,gY,kC,dJ,lD,hr];have dw:Own oC 4 118 w2 W1 (u) s.aF/\∃gs,qN 23 3 w2 W1 (g 7) s.on gs:=⟨h0.from_ hbb,e2'.O.2.elim λgs h=>⟨gs,h.below hb2⟩⟩
  exact⟨by simpa[xB,upd]using dw,hb2⟩
 refine bT.cons (sN.one (d:=16) (p:=(λv w'=>∃b,v=.slice (some ⟨b,0,none⟩) 0 0/\W1.heap.size<=b/\iJ w' b 3 [])) rfl rfl (λv w1 w2 h hb=>h.elim λb h=>⟨b,h.1,h.2.1,h.2.2.below hb h.2.2.lt⟩) (λg w' hb ho hd=>?_)) ?_
 ·unfold iq;go_simp
  exact⟨⟨hb.size,iJ.new _ _ _⟩,(aj _ _).alloc (ay _) _⟩
 refine bT.v (λg w' hb ho hd=>?_) ?_
 ·have e1:=ho 1 rfl;go_simp
 refine bT.v (λg w' hb ho hd=>?_) ?_
 ·have e1:_=_:=hd.d 12;obtain⟨_,x0,x1,x2,x3,x4,x5,x6,_⟩:=hK.O w' (fD hb1 hb);go_simp
 refine bT.cons (⟨λg w1 w2 h hb=>h.below hb,λg g' w1 he h=>?_,λg w' hb ho hd=>?_⟩) ?_
 ·have e0:=he 2 _ 7 (.eU (i:=14) (e:=⟨10,.chain⟩) rfl (by simp) rfl rfl (.eU (i:=10) (e:=⟨6,.chain⟩) rfl (by simp) rfl rfl (.eU (i:=6) (e:=⟨2,.chain⟩) rfl (by simp) rfl rfl (.self 2)))) rfl rfl
  have e4:=he 14 _ 19 (.self 14) rfl rfl;simp only[e0,e4]at h
  exact h
 ·have e1:_=_:=hd.d 13;have e2:Own oC 4 118 w' W1 (g 15) s.aF/\∃gs,qN 23 3 w' W1 (g 7) s.on gs:=hd ⟨10,.chain⟩ (by simp) rfl (by decide)
  have e2':=ah e2;clear e2;obtain⟨bb,e3,hbb,Dz⟩:∃b,g 16=.slice (some ⟨b,0,none⟩) 0 0/\W1.heap.size<=b/\iJ w' b 3 []:=hd.d 11;have hAt:=(hI.O w' (fD hB1 hb)).at_;obtain⟨u,w2,hr,hb2,h0,h⟩:=wF (P:=prog) w' 23 23 3 _ 1 8 underlying23 zS rfl (by decide) (by decide) bb Dz s.jf A4 c4 w' (λ_=>rfl) hAt (by rw[jlZ.O];omega)
  unfold iq;simp only[execOp,resolve,invoke,builtin,jF,e1,e3,iP,jc,gY,kC,dJ,lD,hr];replace h:=h (by rw[jlZ.O];omega)
  have dw:He w2 W1 s.on s.jf (g 7) u:=e2'.O.2.elim λgs h8=>He.of h8 hb.size hb2 h
  exact⟨by simpa[xB,upd]using dw,hb2⟩
 refine bT.cons (sN.one (d:=20) (p:=(λv w'=>∃b,v=.slice (some ⟨b,0,none⟩) 0 0/\W1.heap.size<=b/\iJ w' b 3 [])) rfl rfl (λv w1 w2 h hb=>h.elim λb h=>⟨b,h.1,h.2.1,h.2.2.below hb h.2.2.lt⟩) (λg w' hb ho hd=>?_)) ?_
 ·unfold iq;go_simp
  exact⟨⟨hb.size,iJ.new _ _ _⟩,(aj _ _).alloc (ay _) _⟩
 refine bT.v (λg w' hb ho hd=>?_) ?_
 ·have e1:=ho 1 rfl;go_simp
 refine bT.v (λg w' hb ho hd=>?_) ?_
 ·have e1:_=_:=hd.d 16;obtain⟨_,x0,x1,x2,x3,x4,x5,x6,_⟩:=hK.O w' (fD hb1 hb);go_simp
 refine bT.cons (⟨λg w1 w2 h hb=>h.below hb,λg g' w1 he h=>?_,λg w' hb ho hd=>?_⟩) ?_
 ·have e0:=he 2 _ 7 (.eU (i:=18) (e:=⟨14,.chain⟩) rfl (by simp) rfl rfl (.eU (i:=14) (e:=⟨10,.chain⟩) rfl (by simp) rfl rfl (.eU (i:=10) (e:=⟨6,.chain⟩) rfl (by simp) rfl rfl (.eU (i:=6) (e:=⟨2,.chain⟩) rfl (by simp) rfl rfl (.self 2))))) rfl rfl
  have e4:=he 14 _ 19 (.eU (i:=18) (e:=⟨14,.chain⟩) rfl (by simp) rfl rfl (.self 14)) rfl rfl
  have e5:=he 18 _ 23 (.self 18) rfl rfl;simp only[e0,e4,e5]at h
  exact h
 ·have e1:_=_:=hd.d 17;have e2:He w' W1 s.on s.jf (g 7) (g 19):=hd ⟨14,.chain⟩ (by simp) rfl (by decide)
  have e2':=ah e2;clear e2;obtain⟨bb,e3,hbb,Dz⟩:∃b,g 20=.slice (some ⟨b,0,none⟩) 0 0/\W1.heap.size<=b/\iJ w' b 3 []:=hd.d 15;have hAt:=(hU.O w' (fD hB1 hb)).at_;obtain⟨u,w2,hr,hb2,h0,h⟩:=wF (P:=prog) w' 23 23 3 _ 1 8 underlying23 zS rfl (by decide) (by decide) bb Dz s.O A5 c5 w' (λ_=>rfl) hAt (by rw[jlM.O];omega)
  unfold iq;simp only[execOp,resolve,invoke,builtin,jF,e1,e3,iP,jc,gY,kC,dJ,lD,hr];replace h:=h (by rw[jlM.O];omega)
  have dw:G9 w2 W1 s.on s.jf s.O (g 7) (g 19) u:=G9.of e2'.O hb.size hb2 h;exact⟨by simpa[xB,upd]using dw,hb2⟩
 refine bT.cons (sN.one (d:=24) (p:=(λv w'=>∃b,v=.slice (some ⟨b,0,none⟩) 0 0/\W1.heap.size<=b/\iJ w' b 3 [])) rfl rfl (λv w1 w2 h hb=>h.elim λb h=>⟨b,h.1,h.2.1,h.2.2.below hb h.2.2.lt⟩) (λg w' hb ho hd=>?_)) ?_
 ·unfold iq;go_simp
  exact⟨⟨hb.size,iJ.new _ _ _⟩,(aj _ _).alloc (ay _) _⟩
 refine bT.v (λg w' hb ho hd=>?_) ?_
 ·have e1:=ho 1 rfl;go_simp
 refine bT.v (λg w' hb ho hd=>?_) ?_
 ·have e1:_=_:=hd.d 20;obtain⟨_,x0,x1,x2,x3,x4,x5,x6,_⟩:=hK.O w' (fD hb1 hb);go_simp
 refine bT.cons (⟨λg w1 w2 h hb=>h.below hb,λg g' w1 he h=>?_,λg w' hb ho hd=>?_⟩) ?_
 ·have e0:=he 2 _ 7 (.eU (i:=22) (e:=⟨18,.chain⟩) rfl (by simp) rfl rfl (.eU (i:=18) (e:=⟨14,.chain⟩) rfl (by simp) rfl rfl (.eU (i:=14) (e:=⟨10,.chain⟩) rfl (by simp) rfl rfl (.eU (i:=10) (e:=⟨6,.chain⟩) rfl (by simp) rfl rfl (.eU (i:=6) (e:=⟨2,.chain⟩) rfl (by simp) rfl rfl (.self 2)))))) rfl rfl
  have e4:=he 14 _ 19 (.eU (i:=22) (e:=⟨18,.chain⟩) rfl (by simp) rfl rfl (.eU (i:=18) (e:=⟨14,.chain⟩) rfl (by simp) rfl rfl (.self 14))) rfl rfl
  have e5:=he 18 _ 23 (.eU (i:=22) (e:=⟨18,.chain⟩) rfl (by simp) rfl rfl (.self 18)) rfl rfl
  have e6:=he 22 _ 27 (.self 22) rfl rfl;simp only[e0,e4,e5,e6]at h
  exact h
 ·have e1:_=_:=hd.d 21;have e2:G9 w' W1 s.on s.jf s.O (g 7) (g 19) (g 23):=hd ⟨18,.chain⟩ (by simp) rfl (by decide)
  have e2':=ah e2;clear e2;obtain⟨bb,e3,hbb,Dz⟩:∃b,g 24=.slice (some ⟨b,0,none⟩) 0 0/\W1.heap.size<=b/\iJ w' b 3 []:=hd.d 19;have hAt:=(hX.O w' (fD hB1 hb)).at_;obtain⟨u,w2,hr,hb2,h0,h⟩:=wF (P:=prog) w' 23 23 3 _ 1 8 underlying23 zS rfl (by decide) (by decide) bb Dz s.dB A6 c6 w' (λ_=>rfl) hAt (by rw[Qp.O];omega)
  unfold iq;simp only[execOp,resolve,invoke,builtin,jF,e1,e3,iP,jc,gY,kC,dJ,lD,hr];replace h:=h (by rw[Qp.O];omega)
  have dw:GZ w2 W1 s.on s.jf s.O s.dB (g 7) (g 19) (g 23) u:=GZ.of e2'.O hb.size hb2 h;exact⟨by simpa[xB,upd]using dw,hb2⟩
 refine bT.cons (⟨λg w1 w2 h hb=>h,λg g' w1 he h=>?_,λg w' hb ho hd=>?_⟩) ?_
 ·have es:=he 23 _ 28 (.self 23) rfl rfl;have e0:=he 2 _ 7 (.eU (i:=23) (e:=⟨2,.data⟩) rfl (by simp) rfl rfl (.self 2)) rfl rfl
  have e2:=he 6 _ 11 (.eU (i:=23) (e:=⟨6,.data⟩) rfl (by simp) rfl rfl (.self 6)) rfl rfl
  have e3:=he 10 _ 15 (.eU (i:=23) (e:=⟨10,.data⟩) rfl (by simp) rfl rfl (.self 10)) rfl rfl
  have e4:=he 14 _ 19 (.eU (i:=23) (e:=⟨14,.data⟩) rfl (by simp) rfl rfl (.self 14)) rfl rfl
  have e5:=he 18 _ 23 (.eU (i:=23) (e:=⟨18,.data⟩) rfl (by simp) rfl rfl (.self 18)) rfl rfl
  have e6:=he 22 _ 27 (.eU (i:=23) (e:=⟨22,.data⟩) rfl (by simp) rfl rfl (.self 22)) rfl rfl
  change g' 28=.agg #[g' 7,nS,g' 11,g' 15,g' 19,g' 23,g' 27];rw[<- es,<- e0,<- e2,<- e3,<- e4,<- e5,<- e6];exact h
 ·obtain⟨B0,d0,s0⟩:∃A c,g 7=.slice A s.on.length c:=(hd.d 2:∃gs,qN 23 3 w' W1 (g 7) s.on gs).elim λgs h=>h.isSlice
  obtain⟨B2,d2,s2⟩:=(hd.d 6:Own iD 4 116 w' W1 (g 11) s.aA/\∃gs,qN 23 3 w' W1 (g 7) s.on gs).1.isSlice;obtain⟨B3,d3,s3⟩:=(hd.d 10:Own oC 4 118 w' W1 (g 15) s.aF/\∃gs,qN 23 3 w' W1 (g 7) s.on gs).1.isSlice;obtain⟨B4,d4,s4⟩:=(hd.d 14:He w' W1 s.on s.jf (g 7) (g 19)).isSlice;obtain⟨B5,d5,s5⟩:=(hd.d 18:G9 w' W1 s.on s.jf s.O (g 7) (g 19) (g 23)).isSlice;obtain⟨B6,d6,s6⟩:=(hd.d 22:GZ w' W1 s.on s.jf s.O s.dB (g 7) (g 19) (g 23) (g 27)).isSlice;unfold iq;go_simp
  exact⟨by simp[xB,upd,s0,s2,s3,s4,s5,s6],aj _ _⟩
 refine bT.cons (sN.one (d:=3) (p:=(λv w'=>∃b,v=.pointer (some ⟨b,0,none⟩)/\W1.heap.size<=b/\jB w' b ⟨mM,mM,mM,mM,mM,mM,mM,[],[]⟩)) rfl rfl (λv w1 w2 h hb=>h.elim λb h=>⟨b,h.1,h.2.1,h.2.2.below hb h.2.2.lt⟩) (λg w' hb ho hd=>?_)) ?_
 ·unfold iq;go_simp
  exact⟨⟨hb.size,iJ.new _ _ _⟩,(aj _ _).alloc (ay _) _⟩
 exact bT.nil;obtain⟨r0,r1,r2,⟨bs3,r3,_,_⟩,r4,r5,r6,⟨bs7,r7,_,_⟩,r8,r9,r10,⟨bs11,r11,_,_⟩,r12,r13,TK,⟨bs15,r15,_,_⟩,r16,WM,r18,⟨bs19,r19,_,_⟩,r20,r21,r22,r23,⟨b,r24,hbb,H9⟩,_⟩:=hR;simp only[kP,qJ,aG,aS,bU,dH,bY,cO,dA,dL,aQ,bG,bH,r0,r1,r3,r4,r5,r7,r8,r9,r11,r12,r13,r15,r16,WM,r19,r20,r21,r23,r24];obtain⟨B0,d0,s0⟩:=r22.jcJ;obtain⟨B2,d2,s2⟩:=r6.1.isSlice;obtain⟨B3,d3,s3⟩:=r10.1.isSlice;obtain⟨B4,d4,s4⟩:=TK.isSlice;obtain⟨B5,d5,s5⟩:=r18.isSlice;obtain⟨B6,d6,s6⟩:=r22.isSlice;obtain⟨vs,mQ⟩:=r22.made r6.1 r10.1;simp only[s0,s2,s3,s4,s5,s6]at mQ ⊢
 have hO2:=ah mQ;clear mQ s0 s2 s3 s4 s5 s6;clear r0 r1 r2 r3 r4 r5 r6 r7 r8 r9 r10 r11 r12 r13 TK r15 r16 WM r18 r19 r20 r21 r22 r23 r24;refine dU (.tmp 3) (.tmp 28) _ ⟨.slice B0 s.on.length d0,mM,.slice B2 s.aA.length d2,.slice B3 s.aF.length d3,.slice B4 s.jf.length d4,.slice B5 s.O.length d5,.slice B6 s.dB.length d6,vs,[]⟩ rfl H9 rfl rfl (λw3 OW hg3=>?_)
 have hbw:Below W1 W1 w3:=hb2.grown hg3 hb2.size (λk hk=>by injection hk with hk;omega)
 have hO3:dX w3 W1 ⟨.slice B0 s.on.length d0,mM,.slice B2 s.aA.length d2,.slice B3 s.aF.length d3,.slice B4 s.jf.length d4,.slice B5 s.O.length d5,.slice B6 s.dB.length d6,vs,[]⟩ (upTo s 0):=
  hO2.O.keptBy hg3 H9.blk
 have jkb:=ah hO3;have Jd:=ah OW;clear hO3 hO2 H9 OW hg3 hb2;have jc0:=fD hb1 hbw;obtain⟨_,x0,x1,x2,x3,x4,x5,x6,_⟩:=hK.O w3 jc0;refine eP ?_
 go_wp2_with fail;go_loopw[4] (λi wr=>∃(k:Nat) (V:SV),k<=s.ak.length/\i=.int .i64 k/\dX wr W1.heap.size V (upTo s k)/\jB wr b V/\Below W1.heap.size W1 wr) (λi _=>s.ak.length - (RowKit.intOf i).toNat)
 case atStart=>exact⟨0,_,aN _,rfl,jkb.O,Jd.O,hbw⟩
 case round=>
  clear x0 x1 x2 x3 x4 x5 x6 hbw jc0 jkb Jd;obtain⟨k,V,hk,rfl,hOw,hbx,hbw⟩:=hrel;have Jf:=ah hOw;have EP:=ah hbx;clear hOw hbx;have hB:=fD hB1 hbw;have jc0:=fD hb1 hbw;obtain⟨_,x0,x1,x2,x3,x4,x5,x6,_⟩:=hK.O wr jc0;by_cases hlt:k<s.ak.length
  ·obtain⟨A',c',I8,Gv,e0,e1,hsl⟩:=(hO.O W1 hB1).aC hlt;obtain⟨l1,l3⟩:=zU.O.rE hlt;change 1<=(bK s.ak k).aH.length at l1
   change(bK s.ak k).aH.length<=3 at l3
   have hkl:(k:Int)<(s.ak.length:Int):=by omega
   have hk0:(0:Int)<=(k:Int):=by omega
   have e0':=ah e0;have e1':=ah e1;have jt9:=ah hsl;clear e0 e1 hsl;obtain⟨Ao,co,Qe⟩:=Jf.O.ak.isSlice;have jsw:=ah Qe;have wK:=ah (λr (hr:V.ak.ownBlock=some r)=>Jf.O.ak.size r hr)
   have hTB:=ah (λw' (hT:wr.grownBy w' V.ak.ownBlock)=>(hbw.grown hT hbw.size (λr hr=>(wK.O r hr).1):Below W1 W1 w'))
   have J9:=ah (show some b≠V.ak.ownBlock from λhe=>by
    rcases Jf.O.ak.qy EP.O.blk (by decide)with h|h
    ·rw[h]at he;cases he
    ·exact h he.symm)
   have hnew:=ah (λg (hg:wr.heap.size<=g)=>(show some g≠V.ak.ownBlock from λhe=>by have:=(wK.O g he.symm).2;omega))
   have hlo:(AV (upTo s k).ak V.aH).length<=1000000:=by
    rw[vg Jf.O.llen];show(s.ak.take k).length<=1000000;rw[bC];omega
   go_wp2_with fail;clear Qe;refine AQ 20 (λw'=>wr.grownBy w' V.ak.ownBlock) (λw'=>Below wr wr w') (λw1 w2=>w1.grownBy w2 V.ak.ownBlock) 18 [
    λg _=>g 36=.pointer (some ⟨b,1,none⟩),λg _=>g 37=.slice Ao (AV (upTo s k).ak V.aH).length co,λg _=>g 38=.pointer (some ⟨w.heap.size,1,none⟩),λg _=>g 39=.slice A1 s.ak.length c1,λg _=>g 40=k,λg _=>g 41=.pointer (some ⟨iH A1,l9 A1+k*2,none⟩),λg _=>g 42=.pointer (some ⟨iH A1,l9 A1+k*2,none⟩),λg _=>g 43=.int .i64 (bK s.ak k).eH,λg w'=>(λv w'=>∃b,v=.slice (some ⟨b,0,none⟩) 0 0/\wr.heap.size<=b/\iJ w' b 106 []) (g 44) w',λg _=>g 45=.pointer (some ⟨w.heap.size,1,none⟩),λg _=>g 46=.slice A1 s.ak.length c1,λg _=>g 47=k,λg _=>g 48=.pointer (some ⟨iH A1,l9 A1+k*2,none⟩),λg _=>g 49=.pointer (some ⟨iH A1,l9 A1+k*2+1,none⟩),λg _=>g 50=.slice A' (bK s.ak k).aH.length c',λg w'=>(λv w'=>Own mX 4 106 w' wr v (bK s.ak k).aH) (g 51) w',λg w'=>g 52=.agg #[.int .i64 (bK s.ak k).eH,g 51]/\Own mX 4 106 w' wr (g 51) (bK s.ak k).aH,λg w'=>(∃b,g 53=.slice (some ⟨b,0,none⟩) 1 1/\wr.heap.size<=b/\iJ w' b 114 [.int .i64 (bK s.ak k).eH,g 51])/\Own mX 4 106 w' wr (g 51) (bK s.ak k).aH,λg w'=>Own Oj 2 114 w' W1 (g 54) ((AV (upTo s k).ak V.aH)++[((bK s.ak k).eH,g 51)])/\Own mX 4 106 w' wr (g 51) (bK s.ak k).aH,λg _=>g 55=.pointer (some ⟨b,1,none⟩)] (by kernel_rfl) (by kernel_rfl) rfl (by kernel_rfl)
    (λw1 w2 h hb=>BH h (kW hb)) (λw1 w2 h h'=>BH h h') (λw1 w2 h hb=>fD h hb) (kW (aj _ _).drew) (aj _ _).drew ?_ (λf w2 hT hR=>?_)
   ·simp only[aG,aS];refine fQ.v (λg w' hT ho hd=>?_) ?_
    ·have e1:=ho 3 rfl;go_simp
    refine fQ.v (λg w' hT ho hd=>?_) ?_
    ·have e1:_=_:=hd.d 0;have y1:=(EP.O.grown hT J9.O).cells.2.1;rw[jsw.O]at y1
     go_simp
    refine fQ.v (λg w' hT ho hd=>?_) ?_
    ·have e1:=ho 1 rfl;go_simp
    refine fQ.v (λg w' hT ho hd=>?_) ?_
    ·have e1:_=_:=hd.d 2;obtain⟨_,x0,x1,x2,x3,x4,x5,x6,_⟩:=hK.O w' (hb1.trans ((hTB.O w' hT).mono hb1.size));go_simp
    refine fQ.v (λg w' hT ho hd=>?_) ?_
    ·have e1:=ho 4 rfl;go_simp
    refine fQ.v (λg w' hT ho hd=>?_) ?_
    ·have e1:_=_:=hd.d 3;have e2:_=_:=hd.d 4;go_simp
    refine fQ.v (λg w' hT ho hd=>?_) ?_
    ·have e1:_=_:=hd.d 5;go_simp
    refine fQ.v (λg w' hT ho hd=>?_) ?_
    ·have e1:_=_:=hd.d 6;have y1:=((hTB.O w' hT).cell (p:=⟨iH A1,l9 A1+k*2,none⟩) Gv).trans e0'.O;go_simp
    refine fQ.cons (CW.one (d:=44) (p:=λv w'=>∃b,v=.slice (some ⟨b,0,none⟩) 0 0/\wr.heap.size<=b/\iJ w' b 106 []) rfl rfl (by decide) (λv w1 w2 h hb=>h.elim λb h=>⟨b,h.1,h.2.1,h.2.2.below hb h.2.2.lt⟩) (λv w1 w2 h hb=>h.elim λb h=>⟨b,h.1,h.2.1,h.2.2.grown hb (hnew.O b h.2.1)⟩) (λg w' hT ho hd=>?_)) ?_
    ·unfold iq;go_simp
     exact⟨⟨hT.size,iJ.new _ _ _⟩,(aj _ _).alloc (ay _) _⟩
    refine fQ.v (λg w' hT ho hd=>?_) ?_
    ·have e1:=ho 1 rfl;go_simp
    refine fQ.v (λg w' hT ho hd=>?_) ?_
    ·have e1:_=_:=hd.d 9;obtain⟨_,x0,x1,x2,x3,x4,x5,x6,_⟩:=hK.O w' (hb1.trans ((hTB.O w' hT).mono hb1.size));go_simp
    refine fQ.v (λg w' hT ho hd=>?_) ?_
    ·have e1:=ho 4 rfl;go_simp
    refine fQ.v (λg w' hT ho hd=>?_) ?_
    ·have e1:_=_:=hd.d 10;have e2:_=_:=hd.d 11;go_simp
    refine fQ.v (λg w' hT ho hd=>?_) ?_
    ·have e1:_=_:=hd.d 12;go_simp
    refine fQ.v (λg w' hT ho hd=>?_) ?_
    ·have e1:_=_:=hd.d 13;have y1:=((hTB.O w' hT).cell (p:=⟨iH A1,l9 A1+k*2+1,none⟩) Gv).trans e1'.O;go_simp
    refine fQ.cons (CW.one (d:=51) (p:=λv w'=>Own mX 4 106 w' wr v (bK s.ak k).aH) rfl rfl (by decide) (λv w1 w2 h hb=>Own.below h hb) (λv w1 w2 h hb=>Own.kept h hb (jaF h hnew.O)) (λg w' hT ho hd=>?_)) ?_
    ·have e1:_=_:=hd.d 14;obtain⟨bb,e3,juY,Dz⟩:∃b,g 44=.slice (some ⟨b,0,none⟩) 0 0/\wr.heap.size<=b/\iJ w' b 106 []:=hd.d 8;have hBw:=hTB.O w' hT;have hAt:=(jt9.O.up hBw hBw.size).at_;obtain⟨u,w3,hr,hb3,h0,h⟩:=wF (P:=prog) w' 79 79 106 _ 4 32 underlying79 OJ rfl (by decide) (by decide) bb Dz (bK s.ak k).aH A' c' w' (λ_=>rfl) hAt (by omega)
     unfold iq;simp only[execOp,resolve,invoke,builtin,jF,e1,e3,iP,jc,gY,kC,dJ,lD,hr];exact⟨(h (by omega)).from_ hT.size,hb3⟩
    refine fQ.cons ⟨λg w1 w2 h hb=>⟨h.1,h.2.below hb⟩,λ_ g w1 w2 h hb=>⟨h.1,h.2.kept hb (jaF h.2 hnew.O)⟩,λg g' w1 he h=>?_,λg w' hT _ ho hd=>?_⟩ ?_
    ·have e52:=he 16 _ 52 (.self 16) rfl rfl;have e51:=he 15 _ 51 (.eU (i:=16) (e:=⟨15,.data⟩) rfl (by simp) rfl rfl (.self 15)) rfl rfl
     simp only[e51,e52]at h
     exact h
    ·have e1:_=_:=hd.d 7;have e2:Own mX 4 106 w' wr (g 51) (bK s.ak k).aH:=hd.d 15;obtain⟨Au,cu,s51⟩:=e2.isSlice;have e2':=ah e2;clear e2;unfold iq;go_simp
     refine⟨⟨by simp[xB,upd,s51],?_⟩,aj _ _⟩
     have:=e2'.O;simpa[xB,upd,s51]using this
    refine fQ.cons ⟨λg w1 w2 h hb=>⟨h.1.elim λb h=>⟨b,h.1,h.2.1,h.2.2.below hb h.2.2.lt⟩,h.2.below hb⟩,λ_ g w1 w2 h hb=>⟨h.1.elim λb h=>⟨b,h.1,h.2.1,h.2.2.grown hb (hnew.O b h.2.1)⟩,h.2.kept hb (jaF h.2 hnew.O)⟩,λg g' w1 he h=>?_,λg w' hT _ ho hd=>?_⟩ ?_
    ·have e53:=he 17 _ 53 (.self 17) rfl rfl;have e51:=he 15 _ 51 (.eU (i:=17) (e:=⟨16,.data⟩) rfl (by simp) rfl rfl (.eU (i:=16) (e:=⟨15,.data⟩) rfl (by simp) rfl rfl (.self 15))) rfl rfl
     simp only[e51,e53]at h
     exact h
    ·have e1:_/\_:=hd.d 16;obtain⟨e3,e2⟩:=e1;obtain⟨Au,cu,s51⟩:=e2.isSlice;have e2':=ah e2;clear e2;rw[s51]at e3
     unfold iq;go_simp
     refine⟨⟨⟨w'.heap.size,by simp[xB,upd],hT.size,?_⟩,?_⟩,(aj _ _).alloc (ay _) _⟩
     ·have:=iJ.new w' 114 #[.int .i64 (bK s.ak k).eH,.slice Au (bK s.ak k).aH.length cu];simpa[xB,upd,s51]using this
     ·have:=e2'.O.alloc (.cells #[.int .i64 (bK s.ak k).eH,.slice Au (bK s.ak k).aH.length cu] 114);simpa[xB,upd,s51]using this
    refine fQ.cons ⟨λg w1 w2 h hb=>⟨h.1.below hb,h.2.below hb⟩,λhne=>absurd rfl hne,λg g' w1 he h=>?_,λg w' hT hJ ho hd=>?_⟩ ?_
    ·have e54:=he 18 _ 54 (.self 18) rfl rfl;have e51:=he 15 _ 51 (.eU (i:=18) (e:=⟨15,.chain⟩) rfl (by simp) rfl rfl (.self 15)) rfl rfl
     simp only[e51,e54]at h
     exact h
    ·have e1:_=_:=hd.d 1;obtain⟨⟨gb,e3,hgb,Dz⟩,e2⟩:(∃b,g 53=.slice (some ⟨b,0,none⟩) 1 1/\wr.heap.size<=b/\iJ w' b 114 [.int .i64 (bK s.ak k).eH,g 51])/\Own mX 4 106 w' wr (g 51) (bK s.ak k).aH:=hd.d 17;have mQ:=Jf.O.ak.below (hJ (.inl rfl));obtain⟨i,hi,hz,MG,hbytes⟩:=Qc;have hone:=qP e2;obtain⟨v',w3,hr,hown3,hg3,_,_⟩:=run_append_own_at (P:=prog) w' W1 36 36 114 i _ 2 32 underlying36 hi hz MG hbytes rfl (by decide) V.ak _ _ mQ gb 1 1 (Oj ((bK s.ak k).eH,g 51)) rfl
      (λj u hj=>by rw[gy,fM];exact Dz.cell hj) (jaK _ hone) (by unfold maxLen;omega) (by omega) (aU hbw.size hT.size)
     rw[jsw.O]at hr
     unfold iq;simp only[execOp,resolve,invoke,builtin,jF,e1,e3,iP,jc,gY,kC,dJ,lD,hr];refine⟨⟨?_,?_⟩,.inr ⟨trivial,hg3⟩⟩
     ·have h2:Own Oj 2 114 w3 W1 v' ((AV (upTo s k).ak V.aH)++[((bK s.ak k).eH,g 51)]):=by
       unfold Own;rw[aX,gQ];simpa using hown3
      simpa[xB,upd]using h2
     ·have h2:=e2.kept hg3 (jaF e2 hnew.O);simpa[xB,upd]using h2
    refine fQ.v (λg w' hT ho hd=>?_) ?_
    ·have e1:=ho 3 rfl;go_simp
    exact fQ.nil
   ·obtain⟨r0,r1,r2,r3,r4,r5,r6,r7,⟨bb,r8,_,_⟩,r9,r10,r11,r12,r13,TK,r15,⟨r16,_⟩,⟨⟨gb,WM,_,_⟩,_⟩,⟨hv,hu⟩,r19,_⟩:=hR;simp only[kP,qJ,aG,aS,bU,dH,bY,cO,dA,dL,aQ,bG,bH,r0,r1,r2,r3,r4,r5,r6,r7,r8,r9,r10,r11,r12,r13,TK,r16,WM,r19];have YU:=Jf.O.jek hT (x:=bK s.ak k) (hu.from_ hbw.size) (λg hg=>(hu.size g hg).1) hv
    have G5:=EP.O.grown hT J9.O;have Ru:=hTB.O w2 hT;obtain⟨Av,cv,hv7⟩:=hv.isSlice;obtain⟨Au,cu,hu7⟩:=hu.isSlice;simp only[aX,bP,dQ,fM]at hv7
    simp only[hv7,hu7];obtain⟨vv,hvv⟩:∃x,x=f 54:=⟨_,rfl⟩;have Yr:=YU.box G5 1 vv;have Kq:=G5.Zm vv;rw[<- Zc hlt]at Yr
    have ja8:=Ru.setCell (p:=⟨b,1,none⟩) hbb vv;rw[hvv,hv7]at Yr Kq ja8
    rw[hu7]at Yr
    have jbe:=ah Yr;have O1:=ah Kq;have q1:=G5.cells.2.1;have qf:=G5.frozen 1;clear Yr Kq YU G5 hv hu hv7 hu7 r0 r1 r2 r3 r4 r5 r6 r7 r8 r9 r10 r11 r12 r13 TK r15 r16 WM r19 hvv vv hlo hT I8 Gv;go_wp2_with fail;go_roundw
    case rel=>exact⟨k+1,_,by omega,by go_num,jbe.O,O1.O,ja8⟩
    case measure=>simp[dY];omega
  ·obtain rfl:k=s.ak.length:=by omega
   rw[jbO]at Jf
   have hR1:iJ wr (w.heap.size+1) _ _:=hsE.O ▸ jkh.O.below hbw hs1;have hfz:=hR1.frozen;obtain⟨b0,b1,b2,b3,b4,b5,b6⟩:=EP.O.cells;have hone:V.cells.all (λu=>u.oneCell')=true:=by
    have h:=Jf.O;simp[SV.cells,qP h.on,qP h.ak,qP h.aA,qP h.aF,qP h.jf,qP h.O,qP h.dB]
   have jjQ:jB wr (w.heap.size+1) ⟨mM,mM,mM,mM,mM,mM,mM,[],[]⟩:=hR1;clear hfz;go_wp2_with (refine dU (.tmp 2) (.tmp 56) _ V rfl jjQ rfl hone (λw9 dS jg=>?_))
   have wO:=Jf.O.keptBy jg jjQ.blk;obtain⟨p0,p1,p2,p3,p4,p5,p6⟩:=dS.cells;have hbz:w.heap.size<=w.heap.size+1:=by omega
   have dw:Below w w w9:=hB.grown jg hB.size (λk hk=>by injection hk with hk;omega)
   have hsB:w.heap.size<=W1.heap.size:=hB1.size;clear b0 b1 b2 b3 b4 b5 b6;go_wp2_with fail;exact bV (v:=V.val) (by simp[results,results118,go_sem,SV.val,p0,p1,p2,p3,p4,p5,p6]) rfl ⟨_,rfl,⟨V,rfl,wO.from_ hsB⟩,dw⟩
end
end Wh
