/- Texts of the claim, joined. -/
import Derived.WalkKit
import Derived.Lib.Hide
import Derived.Test.YtfhfkijmebhgmaaGreatProg
import Derived.SizedLaws
import Derived.ChangeOld
import Derived.Carry
set_option maxHeartbeats 20000000
set_option maxRecDepth 100000
theorem Go.RowKit.Hid.O{p:Prop}(h:Go.RowKit.Hid p):p:=h
namespace Wh
open Go Go.RowKit Go.Proofs
abbrev gU:=@Addr.add_lit
abbrev iU:=@Array.all_eq_true_iff_forall_mem
abbrev nO:=@Array.ext_getElem?
abbrev ji:=@Array.getD_eq_getD_getElem?
abbrev sH:=@Array.getElem?_append
abbrev yL:=@Array.getElem?_append_left
abbrev xY:=@Array.getElem?_append_right
abbrev fZ:=@Array.getElem?_eq_none
abbrev bJ:=@Array.getElem?_eq_some_iff
abbrev Bv:=@Array.getElem?_modify
abbrev xG:=@Array.getElem?_setIfInBounds
abbrev Bq:=@Array.getElem?_toList
abbrev nG:=@Array.length_toList
abbrev jG:=@Array.replicate_succ
abbrev jF:=@Array.replicate_zero
abbrev tK:=@Array.size_replicate
abbrev uM:=@Array.size_setIfInBounds
abbrev qR:=@Below.grown
abbrev wV:=@Below.heap_alloc
abbrev aj:=@Below.refl
abbrev jc:=@Below.size
abbrev bG:=@Bool.and_eq_true
abbrev BN:=@Bool.and_false
abbrev uj:=@Bool.eq_iff_iff
abbrev uY:=@Bool.false_and
abbrev iE:=@Bool.false_eq_true
abbrev DX:=@Bool.not_and
abbrev yP:=@Bool.not_eq_false'
abbrev nM:=@Bool.not_eq_true
abbrev kS:=@Bool.not_eq_true'
abbrev rX:=@Bool.not_false
abbrev wH:=@Bool.not_true
abbrev fV:=@Bool.or_eq_true
abbrev lQ:=@Bool.true_and
abbrev BR:=@ByteArray.extract_mk
abbrev xX:=@ByteArray.toList_eq
abbrev tJ:=@Classical.not_forall
abbrev Af:=@DataW.weights_mem_each
abbrev aW:=@Hid.O
abbrev xW:=@Int.add_mul
abbrev jC:=@Int.add_zero
abbrev iM:=@Int.le_refl
abbrev xq:=@Int.le_trans
abbrev wz:=@Int.lt_trichotomy
abbrev wU:=@Int.mul_le_mul_of_nonneg_right
abbrev BM:=@Int.mul_nonneg
abbrev qx:=@Int.sub_zero
abbrev jaI:=@Int.tmod_eq_emod_of_nonneg
abbrev jab:=@Int.tmod_nonneg
abbrev bZ:=@Int.toNat_natCast
abbrev jaH:=@Int.toNat_of_nonneg
abbrev jY:=@IntKind.wrap_i64
abbrev AL:=@IntKind.wrap_u8
abbrev aN:=@IntWalk.i64_in
abbrev ah:=@Lib.hid
abbrev tH:=@List.Pairwise.filter
abbrev qN:=@List.Pairwise.imp_of_mem
abbrev AB:=@List.all_append
abbrev zl:=@List.all_cons
abbrev zF:=@List.all_eq_false
abbrev aX:=@List.all_eq_true
abbrev DW:=@List.all_nil
abbrev zk:=@List.any_cons
abbrev qp:=@List.any_eq_false
abbrev lu:=@List.any_eq_true
abbrev eH:=@List.append_assoc
abbrev iJ:=@List.append_nil
abbrev jO:=@List.append_toArray
abbrev fM:=@List.cons.inj
abbrev jK:=@List.cons_append
abbrev pG:=@List.countP_append
abbrev Bl:=@List.countP_singleton
abbrev rW:=@List.drop_drop
abbrev jE:=@List.drop_eq_getElem_cons
abbrev wG:=@List.drop_eq_nil_of_le
abbrev wS:=@List.drop_length
abbrev Ae:=@List.drop_of_length_le
abbrev CO:=@List.drop_set_of_lt
abbrev eG:=@List.drop_succ_cons
abbrev gW:=@List.drop_zero
abbrev mP:=@List.eq_nil_of_length_eq_zero
abbrev nT:=@List.eraseIdx_eq_take_drop_succ
abbrev lW:=@List.ext_getElem
abbrev ni:=@List.ext_getElem?
abbrev eX:=@List.filterMap_cons
abbrev zL:=@List.filterMap_cons_some
abbrev fF:=@List.filterMap_nil
abbrev jI:=@List.filter_append
abbrev lq:=@List.filter_cons
abbrev lF:=@List.filter_cons_of_neg
abbrev jr:=@List.filter_cons_of_pos
abbrev rU:=@List.filter_eq_nil_iff
abbrev oO:=@List.filter_eq_self
abbrev AA:=@List.find?_cons
abbrev gy:=@List.flatMap_append
abbrev kR:=@List.flatMap_cons
abbrev wR:=@List.flatMap_def
abbrev ng:=@List.foldl_append
abbrev fB:=@List.foldl_cons
abbrev gV:=@List.foldl_nil
abbrev dU:=@List.getD_eq_getElem?_getD
abbrev fE:=@List.getElem?_append_left
abbrev jX:=@List.getElem?_append_right
abbrev vw:=@List.getElem?_cons_succ
abbrev oN:=@List.getElem?_cons_zero
abbrev mO:=@List.getElem?_drop
abbrev bf:=@List.getElem?_eq_getElem
abbrev kZ:=@List.getElem?_eq_none
abbrev eF:=@List.getElem?_eq_some_iff
abbrev iZ:=@List.getElem?_map
abbrev qE:=@List.getElem?_mapIdx
abbrev nD:=@List.getElem?_range
abbrev qo:=@List.getElem?_set
abbrev BQ:=@List.getElem?_set_ne
abbrev Ad:=@List.getElem?_set_self
abbrev gJ:=@List.getElem?_take
abbrev Bj:=@List.getElem?_toArray
abbrev qc:=@List.getElem?_zipWith
abbrev rQ:=@List.getElem_cons_succ
abbrev Ac:=@List.getElem_cons_zero
abbrev zT:=@List.getElem_map
abbrev lN:=@List.getElem_mapIdx
abbrev bU:=@List.getElem_mem
abbrev aV:=@List.getElem_of_mem
abbrev zS:=@List.getElem_set
abbrev CJ:=@List.getElem_set_ne
abbrev pY:=@List.getElem_set_self
abbrev wu:=@List.getElem_take
abbrev aZ:=@List.length_append
abbrev dw:=@List.length_cons
abbrev fQ:=@List.length_drop
abbrev qC:=@List.length_eraseIdx
abbrev kY:=@List.length_filter_le
abbrev fU:=@List.length_map
abbrev dY:=@List.length_nil
abbrev Bh:=@List.length_replicate
abbrev jU:=@List.length_set
abbrev pX:=@List.length_singleton
abbrev bT:=@List.length_take
abbrev xU:=@List.length_take_le
abbrev CB:=@List.length_zipWith
abbrev fJ:=@List.map_append
abbrev oM:=@List.map_congr_left
abbrev dn:=@List.map_cons
abbrev jL:=@List.map_nil
abbrev kJ:=@List.map_toArray
abbrev wQ:=@List.map_zipWith
abbrev jT:=@List.mem_append
abbrev jM:=@List.mem_cons
abbrev bP:=@List.mem_cons_of_mem
abbrev dS:=@List.mem_cons_self
abbrev kH:=@List.mem_filter
abbrev oL:=@List.mem_flatMap
abbrev pW:=@List.mem_iff_getElem?
abbrev kV:=@List.mem_map
abbrev zi:=@List.mem_of_find?_eq_some
abbrev tC:=@List.mem_of_getElem?
abbrev tu:=@List.mem_of_mem_drop
abbrev zK:=@List.mem_of_mem_eraseIdx
abbrev tq:=@List.mem_of_mem_take
abbrev gZ:=@List.mem_range
abbrev iP:=@List.mem_singleton
abbrev iy:=@List.nil_append
abbrev uh:=@List.nodup_cons
abbrev zQ:=@List.not_all_eq_any_not
abbrev oK:=@List.not_mem_nil
abbrev lD:=@List.pairwise_append
abbrev rJ:=@List.pairwise_cons
abbrev iY:=@List.pairwise_iff_getElem
abbrev wE:=@List.pairwise_lt_range
abbrev nY:=@List.pairwise_map
abbrev rC:=@List.pairwise_singleton
abbrev kF:=@List.push_toArray
abbrev lJ:=@List.range_succ
abbrev BP:=@List.replicate_succ'
abbrev bM:=@List.setIfInBounds_toArray
abbrev mG:=@List.set_append_right
abbrev dL:=@List.set_cons_succ
abbrev dF:=@List.set_cons_zero
abbrev uX:=@List.set_eq_take_append_cons_drop
abbrev DV:=@List.set_set
abbrev jP:=@List.size_toArray
abbrev ug:=@List.sum_append
abbrev iI:=@List.sum_cons
abbrev xR:=@List.takeWhile_cons
abbrev jaJ:=@List.take_append
abbrev mF:=@List.take_append_drop
abbrev oG:=@List.take_append_of_le_length
abbrev fG:=@List.take_length
abbrev kN:=@List.take_of_length_le
abbrev Cm:=@List.take_set_of_le
abbrev bC:=@List.take_succ_cons
abbrev dO:=@List.take_succ_eq_append_getElem
abbrev oC:=@List.take_take
abbrev bV:=@List.take_zero
abbrev Cj:=@List.zip_eq_zipWith
abbrev Ci:=@Nat.add_assoc
abbrev ku:=@Nat.add_mul
abbrev jB:=@Nat.add_zero
abbrev uQ:=@Nat.eq_zero_or_pos
abbrev jy:=@Nat.le_of_eq
abbrev jh:=@Nat.le_of_lt
abbrev qK:=@Nat.le_of_not_lt
abbrev au:=@Nat.le_refl
abbrev aY:=@Nat.le_trans
abbrev aI:=@Nat.lt_of_lt_of_le
abbrev pF:=@Nat.lt_or_eq_of_le
abbrev rO:=@Nat.lt_or_ge
abbrev aS:=@Nat.lt_succ_iff_lt_or_eq
abbrev Az:=@Nat.min_def
abbrev jS:=@Nat.min_eq_left
abbrev uV:=@Nat.mul_le_mul
abbrev mY:=@Nat.mul_le_mul_right
abbrev nC:=@Nat.mul_one
abbrev Et:=@Nat.mul_pos
abbrev Es:=@Nat.one_mul
abbrev rM:=@Nat.sub_self
abbrev eY:=@Nat.zero_add
abbrev aK:=@Nat.zero_le
abbrev DU:=@Nat.zero_mul
abbrev zO:=@Ne.symm
abbrev oD:=@Oper.wp_mono
abbrev jl:=@Option.getD_some
abbrev iH:=@Option.map_some
abbrev dQ:=@Option.some.inj
abbrev mZ:=@Option.some.injEq
abbrev sQ:=@Prod.mk.injEq
abbrev iC:=@Result.andThen_ok
abbrev uU:=@RowKit.Hid.O
abbrev jg:=@Sem.run_bind
abbrev jw:=@Sem.run_pure
abbrev sZ:=@World.cell?_alloc_lt
abbrev yO:=@World.grownBy.refl
abbrev oJ:=@World.grownBy_alloc
abbrev Ce:=@World.ownsRow.alloc
abbrev nK:=@World.ownsRow.lt
abbrev cO:=@World.size_alloc
abbrev xJ:=@and_assoc
abbrev qm:=@and_false
abbrev mD:=@and_true
abbrev xQ:=@beq_eq_false_iff_ne
abbrev fD:=@bodyPost_ret
abbrev qQ:=@callsIn_of_wp
abbrev iQ:=@callsIn_wide
abbrev kX:=@congrArg
abbrev fA:=@decide_eq_false
abbrev iG:=@decide_eq_true
abbrev bD:=@decide_eq_true_eq
abbrev vg:=@false_iff
abbrev wY:=@false_or
abbrev kT:=@getD_set_ne
abbrev uH:=@if_false
abbrev ay:=@if_neg
abbrev aB:=@if_pos
abbrev uf:=@if_true
abbrev Dp:=@ite_false
abbrev xP:=@leaves_cons
abbrev nR:=@mem_ready
abbrev vZ:=@not_true_eq_false
abbrev kQ:=@of_decide_eq_true
abbrev ny:=@or_false
abbrev xk:=@results_none
abbrev nX:=@rounds_succ
abbrev qP:=@run_firstCells_some
abbrev vY:=@run_storeCells_at
abbrev qy:=@run_underlying
abbrev DT:=@setRow_other
abbrev mg:=@true_and
abbrev uG:=@true_iff
abbrev xI:=@wpIn_wide
abbrev fC:=@wpList_nil
abbrev jv:=@wpList_plain
abbrev oI:=@wpList_store_row
abbrev yF:=@wp_loop_rounds
abbrev zh:=@wp_region_any
end Wh
namespace Wh
structure Bin where
 front:Bool
 room:Int
 low:Int
 high:Int
structure dA where
 bQ:List Bin
 aP:List Int
structure Line where
 dh:Int
 iw:Int
 oh:Int
 dP:Int
structure Order where
 dW:Int
 aH:List Line
structure dZ where
 aC:Int
 aG:Int
 bin:Int
 n:Int
structure Move where
 dh:Int
 src:Int
 dst:Int
 n:Int
structure aJ where
 on:List (List Int)
 ak:List Order
 aA:List dZ
 aF:List Move
 gY:List Int
 O:List Int
 bg:List Int
structure Total where
 on:Int
 held:Int
 dP:Int
 oh:Int
structure yK where
 dW:Int
 a:Int
 b:Int
 c:Int
 n:Int
 aH:List Line
instance:DecidableEq Line:=λx y=>
 if h:x.dh=y.dh/\x.iw=y.iw/\x.oh=y.oh/\x.dP=y.dP then
  isTrue (by cases x;cases y;simp at h;simp[h])
 else isFalse (by rintro rfl;simp at h)
instance:DecidableEq dZ:=λx y=>
 if h:x.aC=y.aC/\x.aG=y.aG/\x.bin=y.bin/\x.n=y.n then
  isTrue (by cases x;cases y;simp at h;simp[h])
 else isFalse (by rintro rfl;simp at h)
instance:DecidableEq Move:=λx y=>
 if h:x.dh=y.dh/\x.src=y.src/\x.dst=y.dst/\x.n=y.n then
  isTrue (by cases x;cases y;simp at h;simp[h])
 else isFalse (by rintro rfl;simp at h)
instance:DecidableEq Order:=λx y=>
 if h:x.dW=y.dW/\x.aH=y.aH then
  isTrue (by cases x;cases y;simp at h;simp[h])
 else isFalse (by rintro rfl;simp at h)
instance:DecidableEq aJ:=λx y=>
 if h:x.on=y.on/\x.ak=y.ak/\x.aA=y.aA/\x.aF=y.aF/\x.gY=y.gY/\x.O=y.O/\x.bg=y.bg then
  isTrue (by cases x;cases y;simp at h;simp[h])
 else isFalse (by rintro rfl;simp at h)
instance:DecidableEq Total:=λx y=>
 if h:x.on=y.on/\x.held=y.held/\x.dP=y.dP/\x.oh=y.oh then
  isTrue (by cases x;cases y;simp at h;simp[h])
 else isFalse (by rintro rfl;simp at h)
def juH:Bin:=⟨false,0,0,0⟩
def Lc:Line:=⟨0,0,0,0⟩
def Gw:Order:=⟨0,[]⟩
def Xb:dZ:=⟨0,0,0,0⟩
def Ox:Move:=⟨0,0,0,0⟩
def jD:aJ:=⟨[],[],[],[],[],[],[]⟩
def bI(l:List Int)(i:Nat):Int:=l.getD i 0
def fO(l:List (List Int))(i:Nat):List Int:=l.getD i []
def l9(l:List Bin)(i:Nat):Bin:=l.getD i juH
def gK(l:List Line)(i:Nat):Line:=l.getD i Lc
def aU(l:List Order)(i:Nat):Order:=l.getD i Gw
def bH(l:List Move)(i:Nat):Move:=l.getD i Ox
def cZ(n lo hi:Int):Bool:=decide (lo<=n)&&decide (n<=hi)
def BX(b:Bin):Bool:=cZ b.room 0 1000&&cZ b.high 0 200&&cZ b.low 0 b.high
def Ew(s:Int):Bool:=cZ s 1 9
def gQ(p:dA):Int:=
 if !(cZ p.bQ.length 1 6&&cZ p.aP.length 1 3)then 2
 else if !(p.bQ.all BX&&p.aP.all Ew)then 3 else 0
def dA.bin(p:dA)(b:Nat):Bin:=l9 p.bQ b
def EP(p:dA)(f:Bool):List Nat:=(List.range p.bQ.length).filter λb=>(p.bin b).front==f
def uT(p:dA)(f:Bool)(k:Nat):List Nat:=(List.range k).filter λb=>(p.bin b).front==f
def x9(l:List Nat):List Int:=l.map λn:Nat=>(n:Int)
def way(p:dA):List Nat:=EP p true++EP p false
def lV(p:dA)(b:Int):Bool:=cZ b 0 (p.bQ.length - 1)
def iK(p:dA)(g:Int):Bool:=cZ g 0 (p.aP.length - 1)
def BA(p:dA)(row:List Int):Bool:=decide (row.length=p.aP.length)&&row.all (cZ · 0 200)
def Ij(p:dA)(on:List (List Int)):Bool:=decide (on.length=p.bQ.length)&&on.all (BA p)
def iO(p:dA)(on:List (List Int)):Int:=
 if gQ p≠0 then gQ p else if Ij p on then 0 else 1
def qW(p:dA)(on:List (List Int))(b g:Int):Int:=
 if iO p on≠0 then iO p on else if lV p b&&iK p g then 0 else 3
def cell(on:List (List Int))(b g:Nat):Int:=bI (fO on b) g
def setCell(on:List (List Int))(b g:Nat)(n:Int):List (List Int):=on.set b ((fO on b).set g n)
def nH(f:Nat->Int):Nat->Int
 |0=>0
 |k+1=>nH f k+f k
def LJ(p:dA)(on:List (List Int))(b:Nat):Int:=nH (λg=>cell on b g*bI p.aP g) p.aP.length
def BU(on:List (List Int))(g:Nat):Int:=nH (λb=>cell on b g) on.length
def jgV(p:dA)(on:List (List Int))(g:Int):Int:=if qW p on 0 g=0 then BU on g.toNat else 0
def put(p:dA)(on:List (List Int))(b g n:Int):List (List Int)×Int:=
 if qW p on b g≠0 then([],qW p on b g)
 else if !(cZ n (-(cell on b.toNat g.toNat)) (200 - cell on b.toNat g.toNat))then([],3)
 else(setCell on b.toNat g.toNat (cell on b.toNat g.toNat+n),0)
def lH(h:dZ):Bool:=cZ h.aC 0 3&&cZ h.aG 0 2&&cZ h.bin 0 5&&cZ h.n 1 200
def fP(h:dZ):Int:=(h.aC*3+h.aG)*6+h.bin
def hold(l:List dZ)(k:Nat):dZ:=l.getD k Xb
def iD(l:List dZ):Bool:=
 (List.range l.length).all λk=>lH (hold l k)&&(decide (k=0)||decide (fP (hold l (k - 1))<fP (hold l k)))
def lT(l:List dZ):Int:=if iD l then 0 else 1
def Bz(o ln:Int)(h:dZ):Bool:=decide (h.aC=o)&&decide (h.aG=ln)
def uS(o ln b:Int)(h:dZ):Bool:=decide (h.aC=o)&&decide (h.aG=ln)&&decide (h.bin=b)
def bW(l:List dZ)(o ln b:Int):Int:=match l.find? (uS o ln b)with|some h=>h.n|none=>0
def jH(l:List dZ)(h:dZ):List dZ:=
 l.filter (λx=>decide (fP x<fP h))++(if h.n=0 then []else [h])++l.filter (λx=>decide (fP h<fP x))
def add(l:List dZ)(h:dZ):List dZ×Int:=
 if !(iD l)then([],1)else if !(lH h)then([],1)
 else if 200<bW l h.aC h.aG h.bin+h.n then([],3)
 else(jH l {h with n:=bW l h.aC h.aG h.bin+h.n},0)
def drop(l:List dZ)(o ln b:Int):List dZ×Int×Int:=
 if !(iD l)then([],0,1)else if bW l o ln b=0 then([],0,4)
 else(jH l ⟨o,ln,b,0⟩,bW l o ln b,0)
def kept(l:List dZ)(o ln:Int):Int:=((l.filter (Bz o ln)).map (·.n)).sum
def Na(l:List dZ)(o ln:Int):Int×Int:=if !(iD l)then(0,1)else(kept l o ln,0)
def aJ.aC(s:aJ)(o:Nat):Order:=aU s.ak o
def aJ.aG(s:aJ)(o k:Nat):Line:=gK (s.aC o).aH k
def begin(p:dA):aJ:=
 let z:=List.replicate p.aP.length 0
 ⟨List.replicate p.bQ.length z,[],[],[],z,z,z⟩
def wX(s:aJ)(b g:Int)(h:dZ):Int:=if h.bin=b/\(s.aG h.aC.toNat h.aG.toNat).dh=g then h.n else 0
def Aj(b g:Int)(x:Move):Int:=if x.src=b/\x.dh=g then x.n else 0
def toN(b g:Int)(x:Move):Int:=if x.dst=b/\x.dh=g then x.n else 0
def pK(s:aJ)(b g:Int):Int:=(s.aA.map (wX s b g)).sum
def lZ(l:List Move)(b g:Int):Int:=(l.map (Aj b g)).sum
def bound(s:aJ)(b g:Int):Int:=pK s b g+lZ s.aF b g
def Lh(l:List Move)(b g:Int):Int:=(l.map (toN b g)).sum
def iq(s:aJ)(b g:Int):Int:=Lh s.aF b g
def tV(p:dA)(x:Line):Bool:=iK p x.dh&&cZ x.iw 1 200&&cZ x.oh 0 x.iw&&cZ x.dP 0 x.iw
def wW(p:dA)(o:Order):Bool:=cZ o.dW 0 2&&o.aH.all (tV p)
def yQ(p:dA)(s:aJ)(h:dZ):Bool:=
 decide (h.aC<s.ak.length)&&decide (h.aG<(s.aC h.aC.toNat).aH.length)&&decide (h.bin<p.bQ.length)
def sO(p:dA)(x:Move):Bool:=iK p x.dh&&lV p x.src&&lV p x.dst&&decide (x.src≠x.dst)&&cZ x.n 1 200
def uN(p:dA)(l:List Int)(lo:Int):Bool:=decide (l.length=p.aP.length)&&l.all (cZ · lo 1048576)
def Jd(s:aJ):Bool:=decide (s.ak.length<=4)&&decide (s.aF.length<=8)&&s.ak.all (λo=>cZ o.aH.length 1 3)
def oQ(p:dA)(s:aJ):Bool:=
 s.ak.all (wW p)&&iD s.aA&&s.aA.all (yQ p s)&&s.aF.all (sO p)&&uN p s.gY 0&&uN p s.O 0&&uN p s.bg (-1048576)
def wZ(p:dA)(s:aJ)(g:Nat):Bool:=
 decide (BU s.on g=bI s.gY g - bI s.O g+bI s.bg g)&&(List.range p.bQ.length).all λb=>decide (bound s b g<=cell s.on b g)
def oZ(o:Order):Bool:=o.aH.all λx=>decide (x.oh=x.iw)
def mM(s:aJ)(o:Nat)(k:Nat):Bool:=
 let x:=s.aG o k
 let n:=kept s.aA o k
 decide (x.oh+x.dP+n=if(s.aC o).dW=0 then 0 else x.iw)&&!(decide ((s.aC o).dW=2)&&decide (0<n))
def wI(s:aJ)(o:Nat):Bool:=
 !(decide ((s.aC o).dW=1)&&oZ (s.aC o))&&(List.range (s.aC o).aH.length).all (mM s o)
def Eu(p:dA)(s:aJ):Bool:=
 (List.range p.aP.length).all (wZ p s)&&(List.range s.ak.length).all (wI s)
def aQ(p:dA)(s:aJ):Int:=
 if iO p s.on≠0 then iO p s.on
 else if !(Jd s)then 2 else if !(oQ p s)then 1 else if !(Eu p s)then 7 else 0
def lU(s:aJ)(b g:Int):Int:=cell s.on b.toNat g.toNat - bound s b g
def free(p:dA)(s:aJ)(b:Int):Int:=
 (p.bin b.toNat).room - nH (λg=>(cell s.on b.toNat g+iq s b g)*bI p.aP g) p.aP.length
def aJ.lY(s:aJ)(o k:Nat)(x:Line):aJ:=
 {s with ak:=s.ak.set o {s.aC o with aH:=(s.aC o).aH.set k x}}
def tZ(s:aJ)(o k:Nat)(b:Int)(m:Int):aJ:=
 ({s with aA:=jH s.aA ⟨o,k,b,bW s.aA o k b+m⟩}:aJ).lY o k {s.aG o k with dP:=(s.aG o k).dP - m}
def uo(o k:Nat)(but:Int):List Nat->aJ->Int->aJ×Int
 |[],s,n=>(s,n)
 |b::r,s,n=>
  let m:=min n (lU s b (s.aG o k).dh)
  if(b:Int)=but\/m<1 then uo o k but r s n else uo o k but r (tZ s o k b m) (n - m)
def qL(p:dA)(s:aJ)(o k:Nat)(n but:Int):aJ×Int:=uo o k but (way p) s n
def take(p:dA)(s:aJ)(o k n but:Int):aJ×Int×Int:=
 if aQ p s≠0 then(jD,0,aQ p s)
 else if !(cZ o 0 (s.ak.length - 1))then(jD,0,3)
 else if !(cZ k 0 ((s.aC o.toNat).aH.length - 1))||!(cZ n 0 200)||!(decide (but= -1)||lV p but)then(jD,0,3)
 else if(s.aC o.toNat).dW≠1 then(jD,0,6)
 else if(s.aG o.toNat k.toNat).dP<n then(jD,0,3)
 else((qL p s o.toNat k.toNat n but).1,(qL p s o.toNat k.toNat n but).2,0)
def rF(p:dA)(s:aJ)(b g n:Int):aJ×Int:=
 if aQ p s≠0 then(jD,aQ p s)
 else if !(lV p b&&iK p g&&cZ n 1 200)then(jD,3)
 else if free p s b<n*bI p.aP g.toNat then(jD,5)
 else if 200<cell s.on b.toNat g.toNat+iq s b g+n\/1048576<bI s.gY g.toNat+n then(jD,2)
 else({s with on:=setCell s.on b.toNat g.toNat (cell s.on b.toNat g.toNat+n),gY:=s.gY.set g.toNat (bI s.gY g.toNat+n)},0)
def enter(p:dA)(s:aJ)(l:List Line):aJ×Int:=
 if aQ p s≠0 then(jD,aQ p s)
 else if 4<=s.ak.length\/!(cZ l.length 1 3)then(jD,2)
 else if !(l.all λx=>iK p x.dh&&cZ x.iw 1 200)then(jD,3)
 else if !(l.all λx=>decide (x.oh=0)&&decide (x.dP=0))then(jD,1)
 else({s with ak:=s.ak++[⟨0,l⟩]},0)
def KY(o:Order):Order:=if o.dW=0 then⟨1,o.aH.map λx=>{x with dP:=x.iw}⟩else o
def OU(p:dA)(s:aJ)(o k:Nat):aJ:=(qL p s o k (s.aG o k).dP (-1)).1
def IB(p:dA)(o:Nat):Nat->aJ->aJ
 |0,s=>s
 |k+1,s=>OU p (IB p o k s) o k
def F7(p:dA)(s:aJ)(o:Nat):aJ:=if(s.aC o).dW=1 then IB p o (s.aC o).aH.length s else s
def jV(p:dA):Nat->aJ->aJ
 |0,s=>s
 |o+1,s=>F7 p (jV p o s) o
def Ec(p:dA)(s:aJ):aJ:=jV p s.ak.length {s with ak:=s.ak.map KY}
def zq(p:dA)(s:aJ):aJ×Int:=
 if aQ p s≠0 then(jD,aQ p s)else(Ec p s,0)
def xE(s:aJ)(o:Nat):aJ:=
 {s with aA:=s.aA.filter (λh=>decide (h.aC≠o)),ak:=s.ak.set o ⟨2,(s.aC o).aH.map λx=>{x with dP:=x.iw - x.oh}⟩}
def zJ(p:dA)(s:aJ)(o:Int):aJ×Int:=
 if aQ p s≠0 then(jD,aQ p s)
 else if !(cZ o 0 (s.ak.length - 1))then(jD,4)
 else if(s.aC o.toNat).dW=2 then(jD,6)
 else(xE s o.toNat,0)
def close(s:aJ)(o:Nat):aJ:=if oZ (s.aC o)then {s with ak:=s.ak.set o {s.aC o with dW:=2}}else s
def qg(s:aJ)(o k b:Nat)(held n:Int):aJ:=
 let x:=s.aG o k
 ({s with on:=setCell s.on b x.dh.toNat (cell s.on b x.dh.toNat - n),O:=s.O.set x.dh.toNat (bI s.O x.dh.toNat+n),aA:=jH s.aA ⟨o,k,b,0⟩}:aJ).lY o k {x with oh:=x.oh+n,dP:=x.dP+held - n}
def Ai(p:dA)(s:aJ)(o k b:Nat)(n:Int):aJ:=
 let held:=bW s.aA o k b
 close (qL p (qg s o k b held n) o k (held - n) b).1 o
def pick(p:dA)(s:aJ)(o k b n:Int):aJ×Int:=
 if aQ p s≠0 then(jD,aQ p s)
 else if bW s.aA o k b=0 then(jD,4)
 else if !(cZ n 0 (bW s.aA o k b))then(jD,3)
 else if 1048576<bI s.O (s.aG o.toNat k.toNat).dh.toNat+n then(jD,2)
 else(Ai p s o.toNat k.toNat b.toNat n,0)
def Hr(p:dA)(s:aJ)(b g f:Nat):Int:=
 min (min ((p.bin b).high - cell s.on b g - iq s b g) (lU s f g)) ((free p s b).tdiv (bI p.aP g))
def Ie(p:dA)(s:aJ)(b g f:Nat):aJ:=
 if 8<=s.aF.length then s else if 0<Hr p s b g f then {s with aF:=s.aF++[⟨g,f,b,Hr p s b g f⟩]}else s
def sW(p:dA)(b:Nat)(s:aJ)(g:Nat):aJ:=
 if cell s.on b g+iq s b g<(p.bin b).low then(EP p false).foldl (λt f=>Ie p t b g f) s else s
def Oq(p:dA)(s:aJ):aJ:=(EP p true).foldl (λt b=>(List.range p.aP.length).foldl (sW p b) t) s
def fill(p:dA)(s:aJ):aJ×Int:=
 if aQ p s≠0 then(jD,aQ p s)else(Oq p s,0)
def AQ(s:aJ)(k:Nat)(n:Int):aJ:=
 let x:=bH s.aF k
 let on1:=setCell s.on x.src.toNat x.dh.toNat (cell s.on x.src.toNat x.dh.toNat - n)
 {s with on:=setCell on1 x.dst.toNat x.dh.toNat (cell on1 x.dst.toNat x.dh.toNat+n),aF:=s.aF.eraseIdx k}
def CW(p:dA)(s:aJ)(k n:Int):aJ×Int:=
 if aQ p s≠0 then(jD,aQ p s)
 else if !(cZ k 0 (s.aF.length - 1))then(jD,4)
 else if !(cZ n 0 (bH s.aF k.toNat).n)then(jD,3)
 else if 200<cell s.on (bH s.aF k.toNat).dst.toNat (bH s.aF k.toNat).dh.toNat+n then(jD,2)
 else(AQ s k.toNat n,0)
def TD:dA:=⟨[⟨false,100,0,0⟩,⟨true,30,4,8⟩,⟨false,60,0,0⟩],[2,3]⟩
def idxOf{α:Type}(p:α->Bool)(l:List α):Int:=if l.any p then(l.findIdx p:Int)else -1
theorem KP{α:Type}{p:α->Bool}{l:List α}{k:Nat}(hk:k<l.length)(h:p l[k]=true)(hn:∀j (hj:j<k),p (l[j]'(by omega))=false):(k:Int)=idxOf p l:=by
 unfold idxOf;rw[aB (lu.2 ⟨l[k],bU hk,h⟩),(List.findIdx_eq hk).2 ⟨h,hn⟩]
theorem Gn{α:Type}{p:α->Bool}{l:List α}(hn:∀j (hj:j<l.length),p l[j]=false):(-1:Int)=idxOf p l:=by
 unfold idxOf;rw[ay];rw[lu];rintro⟨x,hx,h⟩;obtain⟨j,hj,rfl⟩:=aV hx;rw[hn j hj]at h
 exact absurd h (by decide)
theorem IK{α:Type}(p:α->Bool)(l:List α):decide (0<=idxOf p l)=l.any p:=by
 unfold idxOf;cases h:l.any p
 ·simp
 ·simp
def YK(f:Nat->Int):Nat->Int
 |0=>f 0
 |k+1=>min (YK f k) (f (k+1))
def YL(f:Nat->Int):Nat->Int
 |0=>f 0
 |k+1=>max (YL f k) (f (k+1))
theorem NM{f:Nat->Int}{lo:Int}:∀ {k:Nat},lo<=YK f k↔∀j,j<=k->lo<=f j
 |0=>⟨λh j hj=>by
  obtain rfl:j=0:=by omega
  exact h,λh=>h 0 (au _)⟩
 |k+1=>by
  have ih:=@NM f lo k;rw[YK,Int.le_min];constructor
  ·rintro⟨h1,h2⟩ j hj;by_cases he:j=k+1
   ·subst he;exact h2
   ·exact ih.1 h1 j (by omega)
  ·exact λh=>⟨ih.2 λj hj=>h j (by omega),h _ (au _)⟩
theorem NJ{f:Nat->Int}{hi:Int}:∀ {k:Nat},YL f k<=hi↔∀j,j<=k->f j<=hi
 |0=>⟨λh j hj=>by
  obtain rfl:j=0:=by omega
  exact h,λh=>h 0 (au _)⟩
 |k+1=>by
  have ih:=@NJ f hi k;rw[YL,Int.max_le];constructor
  ·rintro⟨h1,h2⟩ j hj;by_cases he:j=k+1
   ·subst he;exact h2
   ·exact ih.1 h1 j (by omega)
  ·exact λh=>⟨ih.2 λj hj=>h j (by omega),h _ (au _)⟩
def CY(l:List Int):Int:=YK (bI l) (l.length - 1)
def yx(l:List Int):Int:=YL (bI l) (l.length - 1)
theorem NP(p:dA)(f:Bool):(EP p f).Pairwise (·<·):=
 tH _ wE
theorem JV(p:dA)(f:Bool):uT p f p.bQ.length=EP p f:=rfl
theorem EO{p:dA}{f:Bool}{k:Nat}(h:(l9 p.bQ k).front=f):uT p f (k+1)=uT p f k++[k]:=by
 unfold uT dA.bin;rw[lJ,jI];simp[h]
theorem Gi{p:dA}{f:Bool}{k:Nat}(h:(l9 p.bQ k).front≠f):uT p f (k+1)=uT p f k:=by
 unfold uT dA.bin;rw[lJ,jI];simp[h]
theorem C9(p:dA)(f:Bool)(k:Nat):(uT p f k).length<=k:=by
 unfold uT;exact aY (kY _ _) (by simp)
theorem CV(l:List Nat):(x9 l).length=l.length:=by simp[x9]
theorem TN(l m:List Nat):x9 (l++m)=x9 l++x9 m:=by simp[x9]
theorem Dw{p:dA}{f:Bool}{b:Nat}:b∈EP p f↔b<p.bQ.length/\(p.bin b).front=f:=by
 simp[EP]
theorem ZR(p:dA):(EP p true).length+(EP p false).length=p.bQ.length:=by
 have h:∀l:List Nat,(l.filter λb=>(p.bin b).front==true).length+(l.filter λb=>(p.bin b).front==false).length=l.length:=by
  intro l;induction l with
  |nil=>rfl
  |cons x l ih=>cases hx:(p.bin x).front<;>simp[hx]at ih ⊢<;>omega
 rw[EP,EP,h,List.length_range]
theorem U8(p:dA):(way p).length=p.bQ.length:=by
 rw[way,aZ,ZR]
theorem je6{p:dA}{b:Nat}:b∈way p↔b<p.bQ.length:=by
 rw[way,jT,Dw,Dw];cases(p.bin b).front<;>simp
theorem Zp(p:dA):(way p).Pairwise λa b=>a≠b/\((p.bin b).front=true->(p.bin a).front=true)/\((p.bin a).front=(p.bin b).front->a<b):=by
 rw[way,lD];refine⟨?_,?_,?_⟩
 ·refine qN ?_ (NP p true)
  intro a b ha hb h;rw[Dw]at ha hb
  exact⟨by omega,λ_=>ha.2,λ_=>h⟩
 ·refine qN ?_ (NP p false)
  intro a b ha hb h;rw[Dw]at ha hb
  exact⟨by omega,λh'=>absurd h' (by rw[hb.2];decide),λ_=>h⟩
 ·intro a ha b hb;rw[Dw]at ha hb
  refine⟨?_,λh'=>absurd h' (by rw[hb.2];decide),λh'=>absurd h' (by rw[ha.2,hb.2];decide)⟩
  rintro rfl;rw[ha.2]at hb
  exact absurd hb.2 (by decide)
theorem zo{f g:Nat->Int}{n:Nat}(h:∀k,k<n->f k=g k):nH f n=nH g n:=by
 induction n with
 |zero=>rfl
 |succ n ih=>rw[nH,nH,ih (λk hk=>h k (by omega)),h n (by omega)]
theorem EH{f g:Nat->Int}{n i:Nat}{d:Int}(hi:i<n)(h:∀k,k<n->k≠i->g k=f k)(hd:g i=f i+d):nH g n=nH f n+d:=by
 induction n with
 |zero=>omega
 |succ n ih=>
  rw[nH,nH];rcases aS.1 hi with hlt|rfl
  ·rw[ih hlt (λk hk hne=>h k (by omega) hne),h n (by omega) (by omega)]
   omega
  ·rw[zo (λk hk=>h k (by omega) (by omega)),hd]
   omega
theorem Du{f:Nat->Int}{n:Nat}{m:Int}(h:∀k,k<n->0<=f k/\f k<=m):0<=nH f n/\nH f n<=n*m:=by
 induction n with
 |zero=>simp[nH]
 |succ n ih=>
  have h1:=ih (λk hk=>h k (by omega))
  have h2:=h n (by omega)
  have h3:((n+1:Nat):Int)*m=n*m+m:=by rw[Int.natCast_add,xW];simp
  rw[nH,h3];omega
theorem BD{l:List Int}{i:Nat}(h:i<l.length):bI l i=l[i]:=by simp[bI,h]
theorem xZ{l:List (List Int)}{i:Nat}(h:i<l.length):fO l i=l[i]:=by simp[fO,h]
theorem qw{l:List Line}{i:Nat}(h:i<l.length):gK l i=l[i]:=by simp[gK,h]
theorem pI{l:List Move}{i:Nat}(h:i<l.length):bH l i=l[i]:=by simp[bH,h]
theorem uy{l:List Order}{i:Nat}(h:i<l.length):aU l i=l[i]:=by simp[aU,h]
theorem IJ{l:List Int}{i j:Nat}{n:Int}(h:i<l.length):bI (l.set i n) j=if j=i then n else bI l j:=by
 unfold bI;simp only[dU]
 by_cases hj:j=i
 ·subst hj;rw[aB rfl,Ad h]
  rfl
 ·rw[ay hj,BQ (zO hj)]
theorem rowAt_set{l:List (List Int)}{i j:Nat}{r:List Int}(h:i<l.length):fO (l.set i r) j=if j=i then r else fO l j:=by
 unfold fO;simp only[dU]
 by_cases hj:j=i
 ·subst hj;rw[aB rfl,Ad h]
  rfl
 ·rw[ay hj,BQ (zO hj)]
theorem jcF{on:List (List Int)}{b g b' g':Nat}{n:Int}(hb:b<on.length)(hg:g<(fO on b).length):
  cell (setCell on b g n) b' g'=if b'=b/\g'=g then n else cell on b' g':=by
 unfold cell setCell;rw[rowAt_set hb];by_cases h1:b'=b
 ·subst h1;rw[aB rfl,IJ hg];simp only[mg]
 ·rw[ay h1,ay (λh=>h1 h.1)]
theorem qh{on:List (List Int)}{b g:Nat}{n:Int}:(setCell on b g n).length=on.length:=by simp[setCell]
theorem uq{on:List (List Int)}{b g i:Nat}{n:Int}:(fO (setCell on b g n) i).length=(fO on i).length:=by
 unfold setCell;by_cases hb:b<on.length
 ·rw[rowAt_set hb];split
  ·rename_i h;subst h;simp
  ·rfl
 ·rw[List.set_eq_of_length_le (by omega)]
theorem dV{n lo hi:Int}:cZ n lo hi=true↔lo<=n/\n<=hi:=by simp[cZ]
theorem nU{n lo hi:Int}:cZ n lo hi=false↔n<lo\/hi<n:=by
 have:=@dV n lo hi;cases h:cZ n lo hi<;>simp[h]at this ⊢<;>omega
theorem yT{p:dA}{b:Int}:lV p b=true↔0<=b/\b<p.bQ.length:=by rw[lV,dV];omega
theorem vN{p:dA}{g:Int}:iK p g=true↔0<=g/\g<p.aP.length:=by rw[iK,dV];omega
theorem GX{p:dA}{on:List (List Int)}:Ij p on=true↔
  on.length=p.bQ.length/\∀b,b<on.length->(fO on b).length=p.aP.length/\∀g,g<p.aP.length->0<=cell on b g/\cell on b g<=200:=by
 simp only[Ij,bG,bD,aX,BA];constructor
 ·rintro⟨h1,h2⟩;refine⟨h1,λb hb=>?_⟩
  obtain⟨h3,h4⟩:=h2 on[b] (bU hb);unfold cell;rw[xZ hb];refine⟨h3,λg hg=>?_⟩
  have h5:=h4 on[b][g] (bU (by omega))
  rw[dV]at h5
  rw[BD (by omega)]
  exact h5
 ·rintro⟨h1,h2⟩;refine⟨h1,λrow hr=>?_⟩
  obtain⟨b,hb,rfl⟩:=aV hr;obtain⟨h3,h4⟩:=h2 b hb;unfold cell at h4
  rw[xZ hb]at h3 h4
  refine⟨h3,λx hx=>?_⟩
  obtain⟨g,hg,rfl⟩:=aV hx;have h5:=h4 g (by omega)
  rw[BD hg]at h5
  rw[dV];exact h5
theorem jZ{p:dA}{on:List (List Int)}:iO p on=0↔gQ p=0/\Ij p on=true:=by
 unfold iO;by_cases h:gQ p=0
 ·simp[h]
 ·simp[h]
theorem MW{p:dA}{on:List (List Int)}{b g:Int}:qW p on b g=0↔iO p on=0/\lV p b=true/\iK p g=true:=by
 unfold qW;by_cases h:iO p on=0
 ·simp only[h,ne_eq,vZ,Dp,mg,bG];split<;>simp_all
 ·simp[h]
theorem zX{p:dA}:gQ p=0↔(1<=p.bQ.length/\p.bQ.length<=6)/\(1<=p.aP.length/\p.aP.length<=3)/\(∀b∈p.bQ,BX b=true)/\∀x∈p.aP,Ew x=true:=by
 unfold gQ;by_cases h1:(cZ p.bQ.length 1 6&&cZ p.aP.length 1 3)=true
 ·simp only[h1,wH,iE,Dp];simp only[bG,dV]at h1
  by_cases h2:(p.bQ.all BX&&p.aP.all Ew)=true
  ·simp only[h2,wH,iE,Dp,uG];simp only[bG,aX]at h2
   exact⟨by omega,by omega,h2.1,h2.2⟩
  ·simp only[nM]at h2
   simp only[h2,rX,ite_true];constructor
   ·intro h;omega
   ·rintro⟨_,_,h3,h4⟩;simp[aX.2 h3,aX.2 h4]at h2
 ·simp only[nM]at h1
  simp only[h1,rX,ite_true];constructor
  ·intro h;omega
  ·rintro⟨h3,h4,_⟩;have:(cZ p.bQ.length 1 6&&cZ p.aP.length 1 3)=true:=by
    simp only[bG,dV];omega
   rw[this]at h1
   exact absurd h1 (by decide)
theorem Jw{l:List Bin}{i:Nat}(h:i<l.length):l9 l i=l[i]:=by simp[l9,h]
theorem GN{p:dA}(h:cZ p.bQ.length 1 6=false\/cZ p.aP.length 1 3=false):gQ p=2:=by
 unfold gQ;rcases h with h|h<;>simp[h]
theorem KG{p:dA}(h1:cZ p.bQ.length 1 6=true)(h2:cZ p.aP.length 1 3=true){k:Nat}(hk:k<p.bQ.length)(h:BX (l9 p.bQ k)=false):gQ p=3:=by
 unfold gQ;rw[h1,h2];have:(p.bQ.all BX)=false:=by
  rw[zF];exact⟨p.bQ[k],bU hk,by rw[Jw hk]at h;rw[h];decide⟩
 simp[this]
theorem Jv{p:dA}(h1:cZ p.bQ.length 1 6=true)(h2:cZ p.aP.length 1 3=true){k:Nat}(hk:k<p.aP.length)(h:Ew (bI p.aP k)=false):gQ p=3:=by
 unfold gQ;rw[h1,h2];have:(p.aP.all Ew)=false:=by
  rw[zF];exact⟨p.aP[k],bU hk,by rw[BD hk]at h;rw[h];decide⟩
 simp[this]
theorem RU{p:dA}(h1:cZ p.bQ.length 1 6=true)(h2:cZ p.aP.length 1 3=true)(h3:∀k,k<p.bQ.length->BX (l9 p.bQ k)=true)(h4:∀k,k<p.aP.length->Ew (bI p.aP k)=true):gQ p=0:=by
 rw[dV]at h1 h2
 rw[zX];refine⟨by omega,by omega,λb hb=>?_,λx hx=>?_⟩
 ·obtain⟨i,hi,rfl⟩:=aV hb;have:=h3 i hi;rwa [Jw hi]at this
 ·obtain⟨i,hi,rfl⟩:=aV hx;have:=h4 i hi;rwa [BD hi]at this
theorem Un(b:Bin):(cZ b.room 0 1000=false/\BX b=false)\/(cZ b.room 0 1000=true/\cZ b.high 0 200=false/\BX b=false)\/
  (cZ b.room 0 1000=true/\cZ b.high 0 200=true/\cZ b.low 0 b.high=false/\BX b=false)\/(cZ b.room 0 1000=true/\cZ b.high 0 200=true/\cZ b.low 0 b.high=true/\BX b=true):=by
 unfold BX;cases cZ b.room 0 1000<;>cases cZ b.high 0 200<;>cases cZ b.low 0 b.high<;>simp
theorem jfy(p:dA):(p.bQ.any λb=>!BX b)= !(p.bQ.all BX):=by
 rw[zQ]
theorem Yf{p:dA}(h1:cZ p.bQ.length 1 6=true)(h2:cZ p.aP.length 1 3=true)(h:(p.bQ.any λb=>!BX b)=true):gQ p=3:=by
 unfold gQ;rw[jfy,kS]at h
 rw[h1,h2,h];simp
theorem Tt{p:dA}(h1:cZ p.bQ.length 1 6=true)(h2:cZ p.aP.length 1 3=true)(h:CY p.aP<1):gQ p=3:=by
 have h2':=dV.1 h2;by_cases hex:∃k,k<p.aP.length/\Ew (bI p.aP k)=false
 ·obtain⟨k,hk,hk'⟩:=hex;exact Jv h1 h2 hk hk'
 ·exfalso
  have kE:∀k,k<p.aP.length->1<=bI p.aP k:=λk hk=>by
   by_cases hs:Ew (bI p.aP k)=true
   ·unfold Ew at hs;rw[dV]at hs;exact hs.1
   ·exact absurd ⟨k,hk,by simpa using hs⟩ hex
  have:=(NM (f:=bI p.aP) (lo:=1) (k:=p.aP.length - 1)).2 λj hj=>kE j (by omega)
  unfold CY at h
  omega
theorem QT{p:dA}(h1:cZ p.bQ.length 1 6=true)(h2:cZ p.aP.length 1 3=true)(h:9<yx p.aP):gQ p=3:=by
 have h2':=dV.1 h2;by_cases hex:∃k,k<p.aP.length/\Ew (bI p.aP k)=false
 ·obtain⟨k,hk,hk'⟩:=hex;exact Jv h1 h2 hk hk'
 ·exfalso
  have kE:∀k,k<p.aP.length->bI p.aP k<=9:=λk hk=>by
   by_cases hs:Ew (bI p.aP k)=true
   ·unfold Ew at hs;rw[dV]at hs;exact hs.2
   ·exact absurd ⟨k,hk,by simpa using hs⟩ hex
  have:=(NJ (f:=bI p.aP) (hi:=9) (k:=p.aP.length - 1)).2 λj hj=>kE j (by omega)
  unfold yx at h
  omega
theorem Xi{p:dA}(h1:cZ p.bQ.length 1 6=true)(h2:cZ p.aP.length 1 3=true)(h:(p.bQ.any λb=>!BX b)=false)(h3:1<=CY p.aP)(h4:yx p.aP<=9):gQ p=0:=by
 have h2':=dV.1 h2;rw[jfy,yP]at h
 refine RU h1 h2 (λk hk=>?_) λk hk=>?_
 ·rw[Jw hk];exact aX.1 h _ (bU hk)
 ·unfold Ew;rw[dV];exact⟨(NM.1 h3) k (by omega),(NJ.1 h4) k (by omega)⟩
theorem jgG(b:Bin):(cZ b.room 0 1000=false/\BX b=false)\/(cZ b.room 0 1000=true/\200<b.high/\BX b=false)\/
  (cZ b.room 0 1000=true/\b.high<=200/\cZ b.low 0 b.high=false/\BX b=false)\/(cZ b.room 0 1000=true/\b.high<=200/\cZ b.low 0 b.high=true/\BX b=true):=by
 rcases Un b with⟨h1,h2⟩|⟨h1,h2,h3⟩|⟨h1,h2,h3,h4⟩|⟨h1,h2,h3,h4⟩
 ·exact .inl ⟨h1,h2⟩
 ·rw[nU]at h2
  by_cases hh:200<b.high
  ·exact .inr (.inl ⟨h1,hh,h3⟩)
  ·exact .inr (.inr (.inl ⟨h1,by omega,by rw[nU];omega,h3⟩))
 ·rw[dV]at h2
  exact .inr (.inr (.inl ⟨h1,h2.2,h3,h4⟩))
 ·rw[dV]at h2
  exact .inr (.inr (.inr ⟨h1,h2.2,h3,h4⟩))
theorem jfL{p:dA}(row:List Int)(hn:0<p.aP.length):(row.length≠p.aP.length/\BA p row=false)\/(row.length=p.aP.length/\CY row<0/\BA p row=false)\/
  (row.length=p.aP.length/\0<=CY row/\200<yx row/\BA p row=false)\/(row.length=p.aP.length/\0<=CY row/\yx row<=200/\BA p row=true):=by
 by_cases h1:row.length=p.aP.length
 ·have key:BA p row=true↔0<=CY row/\yx row<=200:=by
   unfold BA CY yx;simp only[h1,decide_true,lQ,aX];rw[NM,NJ];constructor
   ·intro h;exact⟨λj hj=>by rw[BD (by omega)];exact(dV.1 (h _ (bU _))).1,λj hj=>by rw[BD (by omega)];exact(dV.1 (h _ (bU _))).2⟩
   ·rintro⟨h2,h3⟩ x hx;obtain⟨j,hj,rfl⟩:=aV hx;rw[dV];have:=h2 j (by omega)
    have:=h3 j (by omega)
    rw[BD hj]at*
    omega
  by_cases h2:CY row<0
  ·exact .inr (.inl ⟨h1,h2,by rw[<- nM,key];omega⟩)
  ·by_cases h3:200<yx row
   ·exact .inr (.inr (.inl ⟨h1,by omega,h3,by rw[<- nM,key];omega⟩))
   ·exact .inr (.inr (.inr ⟨h1,by omega,by omega,key.2 ⟨by omega,by omega⟩⟩))
 ·exact .inl ⟨h1,by unfold BA;simp[h1]⟩
theorem jdi{p:dA}{row:List Int}{j:Nat}(hj:j<row.length)(h:cZ (bI row j) 0 200=false):BA p row=false:=by
 unfold BA;rw[Bool.and_eq_false_iff];right
 rw[zF];exact⟨row[j],bU hj,by rw[BD hj]at h;rw[h];decide⟩
theorem Yy{p:dA}{row:List Int}(hl:row.length=p.aP.length)(h:∀j,j<row.length->cZ (bI row j) 0 200=true):BA p row=true:=by
 unfold BA;rw[hl,iG rfl,lQ,aX];intro x hx;obtain⟨j,hj,rfl⟩:=aV hx;have:=h j hj;rwa [BD hj]at this
theorem QU(p:dA)(on:List (List Int)):(on.any λr=>!BA p r)= !(on.all (BA p)):=by
 rw[zQ]
theorem Nh{p:dA}{on:List (List Int)}(h:gQ p≠0):iO p on=gQ p:=by
 unfold iO;rw[aB h]
theorem OE{p:dA}{on:List (List Int)}(h:gQ p=0)(hl:on.length≠p.bQ.length):iO p on=1:=by
 unfold iO Ij;simp[h,hl]
theorem OG{p:dA}{on:List (List Int)}(h:gQ p=0)(hb:(on.any λr=>!BA p r)=true):iO p on=1:=by
 rw[QU,kS]at hb
 unfold iO Ij;simp[h,hb]
theorem Nj{p:dA}{on:List (List Int)}(h:gQ p=0)(hl:on.length=p.bQ.length)(hb:(on.any λr=>!BA p r)=false):iO p on=0:=by
 rw[QU,yP]at hb
 unfold iO Ij;simp[h,hl,hb]
theorem OD{p:dA}{on:List (List Int)}(h:gQ p=0){k:Nat}(hk:k<on.length)(hb:BA p (fO on k)=false):iO p on=1:=by
 refine OG h ?_
 rw[lu];exact⟨on[k],bU hk,by rw[xZ hk]at hb;rw[hb];rfl⟩
theorem OH{p:dA}{on:List (List Int)}(h:gQ p=0)(hl:on.length=p.bQ.length)(hb:∀k,k<on.length->BA p (fO on k)=true):iO p on=0:=by
 refine Nj h hl ?_
 rw[QU,yP,aX];intro r hr;obtain⟨k,hk,rfl⟩:=aV hr;have:=hb k hk;rwa [xZ hk]at this
theorem Gf{p:dA}{on:List (List Int)}(h:iO p on=0){b g:Nat}(hb:b<on.length)(hg:g<p.aP.length):0<=cell on b g/\cell on b g<=200:=
 ((GX.1 (jZ.1 h).2).2 b hb).2 g hg
theorem OV{p:dA}{on:List (List Int)}(h:iO p on=0){b:Nat}(hb:b<on.length):(fO on b).length=p.aP.length:=
 ((GX.1 (jZ.1 h).2).2 b hb).1
theorem OW{p:dA}{on:List (List Int)}(h:iO p on=0):on.length=p.bQ.length:=(GX.1 (jZ.1 h).2).1
theorem zH{p:dA}(h:gQ p=0){g:Nat}(hg:g<p.aP.length):1<=bI p.aP g/\bI p.aP g<=9:=by
 have h1:=(zX.1 h).2.2.2 p.aP[g] (bU hg);unfold Ew at h1
 rw[dV]at h1
 rw[BD hg];exact h1
theorem IE{p:dA}(h:gQ p=0){b:Nat}(hb:b<p.bQ.length):(0<=(l9 p.bQ b).room/\(l9 p.bQ b).room<=1000)/\(0<=(l9 p.bQ b).low/\(l9 p.bQ b).low<=(l9 p.bQ b).high)/\(0<=(l9 p.bQ b).high/\(l9 p.bQ b).high<=200):=by
 have h1:=(zX.1 h).2.2.1 p.bQ[b] (bU hb);rw[<- Jw hb]at h1
 simp only[BX,bG,dV]at h1
 exact⟨h1.1.1,h1.2,h1.1.2⟩
theorem pJ{p:dA}(h:gQ p=0):1<=p.bQ.length/\p.bQ.length<=6/\1<=p.aP.length/\p.aP.length<=3:=by
 have:=zX.1 h;omega
theorem Vz{a b:Int}(ha:0<=a/\a<=200)(hb:1<=b/\b<=9):0<=a*b/\a*b<=1800:=by
 refine⟨BM ha.1 (by omega),?_⟩
 exact xq (wU ha.2 (by omega)) (by omega)
theorem U9{p:dA}{on:List (List Int)}(h:iO p on=0){b:Nat}(hb:b<on.length){k:Nat}(hk:k<=p.aP.length):
  0<=nH (λg=>cell on b g*bI p.aP g) k/\nH (λg=>cell on b g*bI p.aP g) k<=k*1800:=
 Du λ_ hj=>Vz (Gf h hb (by omega)) (zH (jZ.1 h).1 (by omega))
theorem Yn{p:dA}{on:List (List Int)}(h:iO p on=0){g:Nat}(hg:g<p.aP.length){k:Nat}(hk:k<=on.length):
  0<=nH (λb=>cell on b g) k/\nH (λb=>cell on b g) k<=k*200:=
 Du λ_ hj=>Gf h (by omega) hg
theorem LM{p:dA}{on:List (List Int)}{b g:Nat}{n:Int}(h:Ij p on=true)(hn:0<=n/\n<=200)(hb:b<p.bQ.length)(hg:g<p.aP.length):
  Ij p (setCell on b g n)=true:=by
 rw[GX]at h ⊢
 obtain⟨h1,h2⟩:=h;rw[qh];refine⟨h1,λi hi=>?_⟩
 rw[uq];refine⟨(h2 i hi).1,λj hj=>?_⟩
 rw[jcF (by omega) (by rw[(h2 b (by omega)).1];omega)]
 split
 ·exact hn
 ·exact(h2 i hi).2 j hj
def JJ(l:List dZ):Prop:=l.Pairwise λa b=>fP a<fP b
def fine(l:List dZ):Prop:=∀h∈l,lH h=true
def sD(o ln b:Int):Prop:=(0<=o/\o<=3)/\(0<=ln/\ln<=2)/\(0<=b/\b<=5)
theorem nI{h:dZ}:lH h=true↔sD h.aC h.aG h.bin/\1<=h.n/\h.n<=200:=by
 simp only[lH,bG,dV,sD];omega
theorem YA{a b:dZ}(ha:sD a.aC a.aG a.bin)(hb:sD b.aC b.aG b.bin)(h:fP a=fP b):a.aC=b.aC/\a.aG=b.aG/\a.bin=b.bin:=by
 unfold sD at ha hb
 unfold fP at h
 omega
theorem EJ{a b:dZ}(h:a.aC=b.aC/\a.aG=b.aG/\a.bin=b.bin):fP a=fP b:=by
 unfold fP;rw[h.1,h.2.1,h.2.2]
theorem iL{l:List dZ}{k:Nat}(hk:k<l.length):hold l k=l[k]:=by simp[hold,hk]
theorem gG{l:List dZ}:iD l=true↔fine l/\JJ l:=by
 simp only[iD,aX,gZ,bG,fV,bD];constructor
 ·intro h;have FB:∀k,k+1<l.length->fP (hold l k)<fP (hold l (k+1)):=λk hk=>by
   rcases(h (k+1) hk).2 with h1|h1
   ·omega
   ·simpa using h1
  have hmono:∀d i,i+d+1<l.length->fP (hold l i)<fP (hold l (i+d+1)):=by
   intro d;induction d with
   |zero=>exact λi hi=>FB i (by omega)
   |succ d ih=>
    intro i hi;have h1:=ih i (by omega)
    have h2:=FB (i+d+1) (by omega)
    rw[show i+(d+1)+1=i+d+1+1 by omega]
    omega
  refine⟨λx hx=>?_,?_⟩
  ·obtain⟨k,hk,rfl⟩:=aV hx;rw[<- iL hk];exact(h k hk).1
  ·refine iY.2 λi j hi hj hij=>?_
   have:=hmono (j - i - 1) i (by omega)
   rw[show i+(j - i - 1)+1=j by omega,iL hi,iL hj]at this
   exact this
 ·rintro⟨h1,h2⟩ k hk;refine⟨by rw[iL hk];exact h1 _ (bU hk),?_⟩
  by_cases h0:k=0
  ·exact .inl h0
  ·refine .inr ?_
   rw[iL hk,iL (show k - 1<l.length by omega)]
   exact iY.1 h2 (k - 1) k (by omega) hk (by omega)
theorem CQ{o ln b:Int}{h:dZ}:uS o ln b h=true↔h.aC=o/\h.aG=ln/\h.bin=b:=by
 simp[uS,xJ]
theorem Df{l:List dZ}(_hf:fine l)(hr:JJ l){h:dZ}(hm:h∈l):bW l h.aC h.aG h.bin=h.n:=by
 unfold bW;cases hx:l.find? (uS h.aC h.aG h.bin)with
 |none=>
  have:=List.find?_eq_none.1 hx h hm
  simp[uS]at this
 |some x=>
  have h1:=CQ.1 (List.find?_some hx)
  have h2:=zi hx
  have h3:fP x=fP h:=EJ h1;have h4:x=h:=by
   obtain⟨i,hi,rfl⟩:=aV h2;obtain⟨j,hj,rfl⟩:=aV hm;rcases Nat.lt_trichotomy i j with h5|rfl|h5
   ·have:=iY.1 hr i j hi hj h5;omega
   ·rfl
   ·have:=iY.1 hr j i hj hi h5;omega
  rw[h4]
theorem Dc{l:List dZ}{o ln b:Int}(h:∀x∈l,¬(x.aC=o/\x.aG=ln/\x.bin=b)):bW l o ln b=0:=by
 unfold bW;cases hx:l.find? (uS o ln b)with
 |none=>rfl
 |some x=>exact absurd (CQ.1 (List.find?_some hx)) (h x (zi hx))
theorem SH{l:List dZ}(hf:fine l)(hr:JJ l)(o ln b:Int):
  (∃h∈l,h.aC=o/\h.aG=ln/\h.bin=b/\bW l o ln b=h.n)\/((∀x∈l,¬(x.aC=o/\x.aG=ln/\x.bin=b))/\bW l o ln b=0):=by
 by_cases h:∃x∈l,x.aC=o/\x.aG=ln/\x.bin=b
 ·obtain⟨x,hx,rfl,rfl,rfl⟩:=h;exact .inl ⟨x,hx,rfl,rfl,rfl,Df hf hr hx⟩
 ·refine .inr ⟨λx hx he=>h ⟨x,hx,he⟩,Dc λx hx he=>h ⟨x,hx,he⟩⟩
theorem Fv{l:List dZ}(hf:fine l)(hr:JJ l)(o ln b:Int):0<=bW l o ln b/\bW l o ln b<=200:=by
 rcases SH hf hr o ln b with⟨h,hm,_,_,_,he⟩|⟨_,he⟩
 ·have:=nI.1 (hf h hm);omega
 ·omega
theorem Dh{l:List dZ}(hf:fine l)(hr:JJ l){o ln b:Int}(h:bW l o ln b≠0):sD o ln b/\⟨o,ln,b,bW l o ln b⟩∈l:=by
 rcases SH hf hr o ln b with⟨h',hm,rfl,rfl,rfl,he⟩|⟨_,he⟩
 ·exact⟨(nI.1 (hf h' hm)).1,by rw[he];exact hm⟩
 ·exact absurd he h
theorem IZ{l:List dZ}{h x:dZ}:x∈jH l h↔(x∈l/\fP x≠fP h)\/(x=h/\h.n≠0):=by
 unfold jH;simp only[jT,kH,bD];by_cases h0:h.n=0
 ·simp only[h0,ite_true,oK,ny,ne_eq,vZ,qm,ny];constructor
  ·rintro(⟨h1,h2⟩|⟨h1,h2⟩)
   ·exact⟨h1,by omega⟩
   ·exact⟨h1,by omega⟩
  ·rintro⟨h1,h2⟩;rcases Int.lt_or_lt_of_ne h2 with h3|h3
   ·exact .inl ⟨h1,h3⟩
   ·exact .inr ⟨h1,h3⟩
 ·simp only[h0,Dp,iP,ne_eq,not_false_eq_true,mD];constructor
  ·rintro((⟨h1,h2⟩|h1)|⟨h1,h2⟩)
   ·exact .inl ⟨h1,by omega⟩
   ·exact .inr h1
   ·exact .inl ⟨h1,by omega⟩
  ·rintro(⟨h1,h2⟩|h1)
   ·rcases Int.lt_or_lt_of_ne h2 with h3|h3
    ·exact .inl (.inl ⟨h1,h3⟩)
    ·exact .inr ⟨h1,h3⟩
   ·exact .inl (.inr h1)
theorem jc9{l:List dZ}{h:dZ}(hr:JJ l):JJ (jH l h):=by
 unfold jH JJ;rw[lD,lD];refine⟨⟨hr.filter _,?_,?_⟩,hr.filter _,?_⟩
 ·split<;>simp
 ·intro a ha b hb;simp only[kH,bD]at ha
  split at hb
  ·simp at hb
  ·obtain rfl:=iP.1 hb;exact ha.2
 ·intro a ha b hb;simp only[kH,bD]at hb
  rcases jT.1 ha with ha|ha
  ·simp only[kH,bD]at ha
   omega
  ·split at ha
   ·simp at ha
   ·obtain rfl:=iP.1 ha;exact hb.2
theorem UJ{l:List dZ}{h:dZ}(hl:iD l=true)(hk:sD h.aC h.aG h.bin)(hn:0<=h.n/\h.n<=200):iD (jH l h)=true:=by
 rw[gG]at hl ⊢
 refine⟨λx hx=>?_,jc9 hl.2⟩
 rcases IZ.1 hx with⟨h1,_⟩|⟨rfl,h1⟩
 ·exact hl.1 x h1
 ·exact nI.2 ⟨hk,by omega,hn.2⟩
theorem ER{l:List dZ}{h:dZ}(hl:iD l=true)(hk:sD h.aC h.aG h.bin)(hn:0<=h.n/\h.n<=200)(o ln b:Int):
  bW (jH l h) o ln b=if h.aC=o/\h.aG=ln/\h.bin=b then h.n else bW l o ln b:=by
 have hw:=UJ hl hk hn;rw[gG]at hw hl
 split
 ·rename_i he
  obtain⟨rfl,rfl,rfl⟩:=he;by_cases h0:h.n=0
  ·rw[h0];refine Dc λx hx he=>?_
   rcases IZ.1 hx with⟨_,h2⟩|⟨_,h2⟩
   ·exact h2 (EJ he)
   ·exact h2 h0
  ·exact Df hw.1 hw.2 (IZ.2 (.inr ⟨rfl,h0⟩))
 ·rename_i he
  rcases SH hl.1 hl.2 o ln b with⟨x,hx,rfl,rfl,rfl,e⟩|⟨h1,e⟩
  ·rw[e];refine Df hw.1 hw.2 (IZ.2 (.inl ⟨hx,λhp=>?_⟩))
   have:=YA (nI.1 (hl.1 x hx)).1 hk hp;exact he ⟨this.1.symm,this.2.1.symm,this.2.2.symm⟩
  ·rw[e];refine Dc λx hx hxe=>?_
   rcases IZ.1 hx with⟨h2,_⟩|⟨rfl,_⟩
   ·exact h1 x h2 hxe
   ·exact he hxe
theorem Gj{l:List dZ}(hl:iD l=true)(o ln:Int):kept l o ln=nH (λb=>bW l o ln b) 6:=by
 have key:∀l:List dZ,fine l->JJ l->kept l o ln=nH (λb=>bW l o ln b) 6:=by
  intro l;induction l with
  |nil=>intro _ _;simp[kept,bW,nH]
  |cons x l ih=>
   intro hf hr;have hf':fine l:=λh hm=>hf h (bP _ hm)
   have hr':=rJ.1 hr;have ih':=ih hf' hr'.2;have hx:=nI.1 (hf x (dS ..));have hcons:∀b,bW (x::l) o ln b=if x.aC=o/\x.aG=ln/\x.bin=b then x.n else bW l o ln b:=by
    intro b;unfold bW;rw[AA]
    by_cases hk:x.aC=o/\x.aG=ln/\x.bin=b
    ·rw[aB hk,CQ.2 hk]
    ·rw[ay hk,show uS o ln b x=false by rw[<- nM,CQ];exact hk]
   by_cases hs:x.aC=o/\x.aG=ln
   ·have h0:bW l o ln x.bin=0:=Dc λy hy he=>by
     have h1:=hr'.1 y hy;rw[EJ ⟨hs.1.trans he.1.symm,hs.2.trans he.2.1.symm,he.2.2.symm⟩]at h1
     omega
    have hk1:kept (x::l) o ln=kept l o ln+x.n:=by
     unfold kept;rw[jr (by simp[Bz,hs.1,hs.2])]
     simp[Int.add_comm]
    rw[hk1,ih'];refine(EH (f:=λb=>bW l o ln b) (g:=λb=>bW (x::l) o ln b) (i:=x.bin.toNat) (d:=x.n) ?_ ?_ ?_).symm
    ·have:=hx.1.2.2;omega
    ·intro b _ hb;show bW (x::l) o ln b=bW l o ln b;rw[hcons,ay (by have:=hx.1.2.2;omega)]
    ·have hb:=hx.1.2.2;show bW (x::l) o ln (x.bin.toNat:Int)=bW l o ln (x.bin.toNat:Int)+x.n;rw[jaH hb.1,hcons,aB ⟨hs.1,hs.2,rfl⟩,h0];omega
   ·have hk1:kept (x::l) o ln=kept l o ln:=by
     unfold kept;rw[lF (by simp[Bz];exact λh=>λh'=>hs ⟨h,h'⟩)]
    rw[hk1,ih'];refine zo λb _=>?_
    show _=bW (x::l) o ln b;rw[hcons,ay (λhe=>hs ⟨he.1,he.2.1⟩)]
 rw[gG]at hl
 exact key l hl.1 hl.2
theorem YP{l:List dZ}{h:dZ}(hl:iD l=true)(hk:sD h.aC h.aG h.bin)(hn:0<=h.n/\h.n<=200)(o ln:Int):
  kept (jH l h) o ln=kept l o ln+if h.aC=o/\h.aG=ln then h.n - bW l h.aC h.aG h.bin else 0:=by
 rw[Gj (UJ hl hk hn),Gj hl];by_cases hs:h.aC=o/\h.aG=ln
 ·rw[aB hs];obtain⟨rfl,rfl⟩:=hs;refine EH (i:=h.bin.toNat) (by have:=hk.2.2;omega) (λb _ hb=>?_) ?_
  ·show bW (jH l h) _ _ _=_;rw[ER hl hk hn,ay (by have:=hk.2.2;omega)]
  ·show bW (jH l h) _ _ _=_;rw[ER hl hk hn,aB ⟨rfl,rfl,by have:=hk.2.2;omega⟩]
   rw[show((h.bin.toNat:Nat):Int)=h.bin by have:=hk.2.2;omega]
   omega
 ·rw[ay hs,jC];refine zo λb _=>?_
  show bW (jH l h) _ _ _=_;rw[ER hl hk hn,ay (λhe=>hs ⟨he.1,he.2.1⟩)]
theorem vK{l:List dZ}(hl:iD l=true)(o ln:Int):0<=kept l o ln/\kept l o ln<=1200:=by
 rw[Gj hl];rw[gG]at hl
 have:=Du (f:=λb=>bW l o ln b) (n:=6) (m:=200) λb _=>Fv hl.1 hl.2 o ln b
 omega
def Tq(a b:Int):Int:=if a<b then -1 else if b<a then 1 else 0
def ord(a b:dZ):Int:=
 if Tq a.aC b.aC≠0 then Tq a.aC b.aC else if Tq a.aG b.aG≠0 then Tq a.aG b.aG else Tq a.bin b.bin
theorem MQ(a b:Int):(a<b/\Tq a b= -1)\/(b<a/\Tq a b=1)\/(a=b/\Tq a b=0):=by
 unfold Tq;rcases wz a b with h|h|h
 ·exact .inl ⟨h,aB h⟩
 ·exact .inr (.inr ⟨h,by rw[ay (by omega),ay (by omega)]⟩)
 ·exact .inr (.inl ⟨h,by rw[ay (by omega),aB h]⟩)
theorem IG(a b:dZ):(ord a b= -1/\(a.aC<b.aC\/a.aC=b.aC/\(a.aG<b.aG\/a.aG=b.aG/\a.bin<b.bin)))\/
  (ord a b=1/\(b.aC<a.aC\/a.aC=b.aC/\(b.aG<a.aG\/a.aG=b.aG/\b.bin<a.bin)))\/(ord a b=0/\a.aC=b.aC/\a.aG=b.aG/\a.bin=b.bin):=by
 unfold ord;rcases MQ a.aC b.aC with⟨h1,e1⟩|⟨h1,e1⟩|⟨h1,e1⟩<;>rcases MQ a.aG b.aG with⟨h2,e2⟩|⟨h2,e2⟩|⟨h2,e2⟩<;>
  rcases MQ a.bin b.bin with⟨h3,e3⟩|⟨h3,e3⟩|⟨h3,e3⟩<;>simp only[e1,e2,e3]<;>simp<;>omega
theorem UQ{a b:dZ}:ord a b<0↔(a.aC<b.aC\/a.aC=b.aC/\(a.aG<b.aG\/a.aG=b.aG/\a.bin<b.bin)):=by
 rcases IG a b with⟨h,h'⟩|⟨h,h'⟩|⟨h,h'⟩<;>rw[h]<;>omega
theorem G6{a b:dZ}:ord a b=0↔(a.aC=b.aC/\a.aG=b.aG/\a.bin=b.bin):=by
 rcases IG a b with⟨h,h'⟩|⟨h,h'⟩|⟨h,h'⟩<;>rw[h]<;>omega
theorem O1{a b:dZ}(ha:sD a.aC a.aG a.bin)(hb:sD b.aC b.aG b.bin):ord a b<0↔fP a<fP b:=by
 rw[UQ];unfold sD at ha hb
 unfold fP;omega
theorem jdx{a b:dZ}(ha:sD a.aC a.aG a.bin)(hb:sD b.aC b.aG b.bin):ord a b=0↔fP a=fP b:=by
 rw[G6];unfold sD at ha hb
 unfold fP;omega
def pos(l:List dZ)(h:dZ):Nat:=(l.takeWhile λx=>decide (ord x h<0)).length
def zN(l:List dZ)(h:dZ):Bool:=decide (pos l h<l.length)&&decide (ord (hold l (pos l h)) h=0)
theorem KH{α:Type}(p:α->Bool):∀(l:List α) (k:Nat),k<=l.length->(∀i (hi:i<l.length),i<k->p l[i]=true)->(∀(hk:k<l.length),p l[k]=false)->(l.takeWhile p).length=k
 |[],k,hk,_,_=>by simp at hk;simp[hk]
 |x::l,0,_,_,h2=>by
  have:=h2 (by simp)
  simp at this
  simp[this]
 |x::l,k+1,hk,h1,h2=>by
  have h0:=h1 0 (by simp) (by omega)
  simp at h0
  rw[xR,h0,aB rfl,dw,KH p l k (by simpa using hk) (λi hi hik=>h1 (i+1) (by simpa using hi) (by omega)) (λhk'=>h2 (by simpa using hk'))]
theorem Nv{α:Type}(p:α->Bool):∀(l:List α),(l.takeWhile p).length<=l.length/\(∀i (hi:i<l.length),i<(l.takeWhile p).length->p l[i]=true)/\∀(hk:(l.takeWhile p).length<l.length),p l[(l.takeWhile p).length]=false
 |[]=>by simp
 |x::l=>by
  obtain⟨h1,h2,h3⟩:=Nv p l;by_cases hx:p x=true
  ·have e:(x::l).takeWhile p=x::l.takeWhile p:=by rw[xR,aB hx]
   rw[e];refine⟨by simpa using h1,λi hi hik=>?_,λhk=>?_⟩
   ·cases i with
    |zero=>simpa using hx
    |succ i=>simpa using h2 i (by simpa using hi) (by simpa using hik)
   ·have:=h3 (by simpa using hk)
    simpa using this
  ·have e:(x::l).takeWhile p=[]:=by rw[xR,ay hx]
   rw[e];exact⟨by simp,λi hi hik=>by simp at hik,λhk=>by simpa using hx⟩
theorem pos_eq{l:List dZ}{h:dZ}{k:Nat}(hk:k<=l.length)(h1:∀i,i<k->ord (hold l i) h<0)(h2:k<l.length->0<=ord (hold l k) h):pos l h=k:=
 KH _ l k hk (λi hi hik=>by have:=h1 i hik;rw[iL hi]at this;simpa using this) (λhk'=>by have:=h2 hk';rw[iL hk']at this;simpa using this)
theorem Q8(l:List dZ)(h:dZ):pos l h<=l.length/\(∀i,i<pos l h->ord (hold l i) h<0)/\(pos l h<l.length->0<=ord (hold l (pos l h)) h):=by
 obtain⟨h1,h2,h3⟩:=Nv (λx=>decide (ord x h<0)) l
 refine⟨h1,λi hi=>?_,λhk=>?_⟩
 ·have:=h2 i (aI hi h1) hi;rw[iL (aI hi h1)];simpa using this
 ·have:=h3 hk;rw[iL hk];exact Int.not_lt.1 (of_decide_eq_false this)
theorem jlU{l:List dZ}(h:iD l=true){i:Nat}(hi:i<l.length):lH (hold l i)=true:=by
 rw[iL hi];exact(gG.1 h).1 _ (bU hi)
theorem Hy{l:List dZ}(h:iD l=true){i:Nat}(hi:i<l.length):sD (hold l i).aC (hold l i).aG (hold l i).bin:=(nI.1 (jlU h hi)).1
theorem jfS{l:List dZ}(h:iD l=true){i:Nat}(hi:i<l.length):1<=(hold l i).n/\(hold l i).n<=200:=(nI.1 (jlU h hi)).2
theorem jbo{l:List dZ}(h:iD l=true){i j:Nat}(hij:i<j)(hj:j<l.length):ord (hold l i) (hold l j)<0:=by
 rw[O1 (Hy h (by omega)) (Hy h hj),iL hj,iL (show i<l.length by omega)]
 exact iY.1 (gG.1 h).2 i j (by omega) hj hij
theorem YE{a b c:dZ}(h1:ord a b<0)(h2:ord b c<=0):ord a c<0:=by
 rw[UQ]at*
 rcases IG b c with⟨h,h'⟩|⟨h,h'⟩|⟨h,h'⟩<;>omega
theorem jeX{l:List dZ}(h:iD l=true){x:dZ}{i j:Nat}(hij:i<=j)(hj:j<l.length)(hx:ord (hold l j) x<0):ord (hold l i) x<0:=by
 rcases pF hij with h1|rfl
 ·exact YE (jbo h h1 hj) (by omega)
 ·exact hx
theorem yV{l:List dZ}{h:dZ}:zN l h=true↔pos l h<l.length/\ord (hold l (pos l h)) h=0:=by
 unfold zN;simp
theorem QI{l:List dZ}(hl:iD l=true){h:dZ}(hf:zN l h=true):bW l h.aC h.aG h.bin=(hold l (pos l h)).n:=by
 obtain⟨h1,h2⟩:=yV.1 hf;obtain⟨e1,e2,e3⟩:=G6.1 h2;obtain⟨g1,g2⟩:=gG.1 hl;rw[<- e1,<- e2,<- e3];exact Df g1 g2 (by rw[iL h1];exact bU h1)
theorem PO{l:List dZ}(hl:iD l=true){h:dZ}(hf:zN l h=false):bW l h.aC h.aG h.bin=0:=by
 refine Dc λx hx hk=>?_
 obtain⟨i,hi,rfl⟩:=aV hx;have h0:ord (hold l i) h=0:=by rw[iL hi];exact G6.2 hk
 obtain⟨p1,p2,p3⟩:=Q8 l h;have hip:pos l h<=i:=qK λhn=>by have:=p2 i hn;omega
 have hp:pos l h=i:=by
  rcases pF hip with h1|h1
  ·have:=YE (jbo hl h1 hi) (by omega:ord (hold l i) h<=0)
   have:=p3 (by omega)
   omega
  ·exact h1
 have:zN l h=true:=yV.2 ⟨by omega,by rw[hp];exact h0⟩
 rw[hf]at this
 cases this
theorem filter_lt{l:List dZ}(hl:iD l=true){h:dZ}(hk:sD h.aC h.aG h.bin):l.filter (λx=>decide (fP x<fP h))=l.take (pos l h):=by
 obtain⟨p1,p2,p3⟩:=Q8 l h;have key:∀i (hi:i<l.length),(fP l[i]<fP h↔i<pos l h):=λi hi=>by
  have hki:=Hy hl hi;rw[iL hi]at hki
  rw[<- O1 hki hk,<- iL hi];constructor
  ·intro hlt;exact Nat.lt_of_not_le λhn=>by have:=jeX hl hn hi hlt;have:=p3 (by omega);omega
  ·exact p2 i
 conv=>lhs;rw[<- mF (pos l h) l]
 rw[jI,oO.2,rU.2,iJ]
 ·intro x hx;obtain⟨i,hi,rfl⟩:=aV hx;rw[List.getElem_drop];rw[fQ]at hi
  simp only[bD];intro hc;have:=(key (pos l h+i) (by omega)).1 hc
  omega
 ·intro x hx;obtain⟨i,hi,rfl⟩:=aV hx;rw[wu];rw[bT]at hi
  simp only[bD];exact(key i (by omega)).2 (by omega)
theorem Ti{l:List dZ}(hl:iD l=true){h:dZ}(hk:sD h.aC h.aG h.bin):
  l.filter (λx=>decide (fP h<fP x))=l.drop (if zN l h then pos l h+1 else pos l h):=by
 obtain⟨p1,p2,p3⟩:=Q8 l h;have key:∀i (hi:i<l.length),(fP h<fP l[i]↔(if zN l h then pos l h+1 else pos l h)<=i):=λi hi=>by
  have hki:=Hy hl hi;have a1:=O1 hki hk;have a2:=jdx hki hk;rw[<- iL hi];have e:fP h<fP (hold l i)↔0<ord (hold l i) h:=by omega
  rw[e];constructor
  ·intro hlt;have hge:pos l h<=i:=qK λhn=>by have:=p2 i hn;omega
   split
   ·rename_i hf
    obtain⟨f1,f2⟩:=yV.1 hf;rcases pF hge with h1|h1
    ·omega
    ·rw[<- h1]at hlt;omega
   ·exact hge
  ·intro hge;split at hge
   ·rename_i hf
    obtain⟨f1,f2⟩:=yV.1 hf;have h1:=jbo hl (show pos l h<i by omega) hi
    rw[G6]at f2
    rw[UQ]at h1
    rcases IG (hold l i) h with⟨h,h'⟩|⟨h,h'⟩|⟨h,h'⟩<;>omega
   ·rename_i hf
    have hp3:=p3 (by omega)
    have hnz:ord (hold l (pos l h)) h≠0:=λh0=>hf (yV.2 ⟨by omega,h0⟩)
    rcases pF hge with h1|h1
    ·have h2:=jbo hl h1 hi;rw[UQ]at h2
     rcases IG (hold l (pos l h)) h with⟨q,q'⟩|⟨q,q'⟩|⟨q,q'⟩<;>rcases IG (hold l i) h with⟨g,g'⟩|⟨g,g'⟩|⟨g,g'⟩<;>omega
    ·rw[<- h1];omega
 generalize (if zN l h then pos l h+1 else pos l h)=q at key ⊢
 conv=>lhs;rw[<- mF q l]
 rw[jI,rU.2,oO.2,iy]
 ·intro x hx;obtain⟨i,hi,rfl⟩:=aV hx;rw[List.getElem_drop];rw[fQ]at hi
  simp only[bD];exact(key (q+i) (by omega)).2 (by omega)
 ·intro x hx;obtain⟨i,hi,rfl⟩:=aV hx;rw[wu];rw[bT]at hi
  simp only[bD];intro hc;have:=(key i (by omega)).1 hc
  omega
theorem jgQ{l:List dZ}(hl:iD l=true){h:dZ}(hk:sD h.aC h.aG h.bin)(hn:h.n≠0)(hf:zN l h=false):jH l h=l.take (pos l h)++h::l.drop (pos l h):=by
 unfold jH;rw[filter_lt hl hk,Ti hl hk,hf,ay hn];simp
theorem jhB(l:List dZ)(h:dZ)(n:Int):pos l {h with n:=n}=pos l h:=rfl
theorem jan(l:List dZ)(h:dZ)(n:Int):zN l {h with n:=n}=zN l h:=rfl
theorem Yj{l:List dZ}(hl:iD l=true){h:dZ}(hk:sD h.aC h.aG h.bin)(hn:h.n≠0)(hf:zN l h=true):jH l h=l.set (pos l h) h:=by
 unfold jH;obtain⟨f1,f2⟩:=yV.1 hf;rw[filter_lt hl hk,Ti hl hk,hf,ay hn,uX,aB f1];simp
theorem Yk{l:List dZ}(hl:iD l=true){h:dZ}(hk:sD h.aC h.aG h.bin)(hn:h.n=0)(hf:zN l h=true):jH l h=l.eraseIdx (pos l h):=by
 unfold jH;rw[filter_lt hl hk,Ti hl hk,hf,aB hn,nT];simp
theorem jgo{l:List dZ}(hl:iD l=true){h:dZ}(hf:zN l h=true):sD h.aC h.aG h.bin:=by
 obtain⟨f1,f2⟩:=yV.1 hf;obtain⟨e1,e2,e3⟩:=G6.1 f2;rw[<- e1,<- e2,<- e3];exact Hy hl f1
def xg(l:List dZ)(h:dZ)(k:Nat):Bool:=decide (h.n=0)||(l.take k).any λx=>decide (fP h<=fP x)
def rD(l:List dZ)(h:dZ)(k:Nat):List dZ:=
 (l.take k).filter (λx=>decide (fP x<fP h))++(if xg l h k=true/\h.n≠0 then [h]else [])++(l.take k).filter (λx=>decide (fP h<fP x))
theorem OT{l:List dZ}{k:Nat}(hk:k<l.length):l.take (k+1)=l.take k++[hold l k]:=by
 rw[dO hk,iL hk]
theorem Zi{l:List dZ}(hr:JJ l){k:Nat}(hk:k<l.length):∀x∈l.take k,fP x<fP (hold l k):=by
 intro x hx;obtain⟨i,hi,rfl⟩:=aV hx;rw[bT]at hi
 rw[wu,iL hk];exact iY.1 hr i k (by omega) hk (by omega)
theorem TG(l:List dZ)(h:dZ):rD l h 0=[]/\xg l h 0=decide (h.n=0):=by
 unfold rD xg;simp
theorem jjR{l:List dZ}{h:dZ}(hb:∀x∈l,fP x<fP h):(l.any λx=>decide (fP h<=fP x))=false:=by
 rw[qp];intro x hx;have:=hb x hx;simp only[bD];omega
theorem TW{l:List dZ}{h:dZ}(hb:∀x∈l,fP x<fP h):l.filter (λx=>decide (fP h<fP x))=[]:=by
 rw[rU];intro x hx;have:=hb x hx;simp only[bD];omega
theorem Nu{l:List dZ}{h:dZ}(hr:JJ l){k:Nat}(hk:k<l.length)(hp:fP (hold l k)<fP h):rD l h (k+1)=rD l h k++[hold l k]/\xg l h (k+1)=xg l h k:=by
 have hb:∀x∈l.take k,fP x<fP h:=λx hx=>Int.lt_trans (Zi hr hk x hx) hp
 have hd:xg l h (k+1)=xg l h k:=by
  unfold xg;rw[OT hk,List.any_append,jjR hb];simp;omega
 refine⟨?_,hd⟩
 have hd0:xg l h k=decide (h.n=0):=by
  unfold xg;rw[jjR hb,Bool.or_false]
 have hno:¬(xg l h k=true/\h.n≠0):=by
  rw[hd0];simp
 unfold rD;rw[hd,OT hk,jI,jI,TW hb,ay hno,lq,aB (by simpa using hp),lq,ay (by simp;omega)]
 simp
theorem RN{l:List dZ}{h:dZ}{k:Nat}(hk:k<l.length)(hp:fP h<=fP (hold l k)):xg l h (k+1)=true:=by
 unfold xg;rw[OT hk,List.any_append];simp[hp]
theorem MI{l:List dZ}{h:dZ}{k:Nat}(hk:k<l.length)(hp:fP h<=fP (hold l k)):
  rD l h (k+1)=(l.take k).filter (λx=>decide (fP x<fP h))++(if h.n≠0 then [h]else [])++((l.take k).filter (λx=>decide (fP h<fP x))++if fP h<fP (hold l k)then [hold l k]else []):=by
 unfold rD;rw[RN hk hp,OT hk,jI,jI,lq,ay (by simp;omega),lq]
 simp
theorem ZL{l:List dZ}{h:dZ}{k:Nat}(hd:xg l h k=false):h.n≠0/\∀x∈l.take k,fP x<fP h:=by
 unfold xg at hd
 simp only[Bool.or_eq_false_iff,decide_eq_false_iff_not,qp,bD]at hd
 exact⟨hd.1,λx hx=>by have:=hd.2 x hx;omega⟩
theorem jaS{l:List dZ}{h:dZ}{k:Nat}(hk:k<l.length)(hp:fP (hold l k)=fP h)(hd:xg l h k=false):rD l h (k+1)=rD l h k++[h]:=by
 obtain⟨hn,hb⟩:=ZL hd;rw[MI hk (by omega),TW hb,aB hn,ay (by omega)]
 unfold rD;rw[hd,TW hb];simp
theorem jaR{l:List dZ}{h:dZ}(hr:JJ l){k:Nat}(hk:k<l.length)(hp:fP (hold l k)=fP h)(hd:xg l h k=true):rD l h (k+1)=rD l h k:=by
 have hb:∀x∈l.take k,fP x<fP h:=λx hx=>by have:=Zi hr hk x hx;omega
 rw[MI hk (by omega),TW hb,ay (show ¬fP h<fP (hold l k)by omega)]
 unfold rD;rw[hd,TW hb];simp
theorem XD{l:List dZ}{h:dZ}{k:Nat}(hk:k<l.length)(hp:fP h<fP (hold l k))(hd:xg l h k=false):rD l h (k+1)=(rD l h k++[h])++[hold l k]:=by
 obtain⟨hn,hb⟩:=ZL hd;rw[MI hk (by omega),TW hb,aB hn,aB hp]
 unfold rD;rw[hd,TW hb];simp
theorem XC{l:List dZ}{h:dZ}{k:Nat}(hk:k<l.length)(hp:fP h<fP (hold l k))(hd:xg l h k=true):rD l h (k+1)=rD l h k++[hold l k]:=by
 rw[MI hk (by omega),aB hp]
 unfold rD;rw[hd];simp
theorem Zn{l:List dZ}{h:dZ}(hd:xg l h l.length=true):jH l h=rD l h l.length:=by
 unfold jH rD;rw[hd,fG];by_cases hn:h.n=0<;>simp[hn]
theorem Zo{l:List dZ}{h:dZ}(hd:xg l h l.length=false):jH l h=rD l h l.length++[h]:=by
 obtain⟨hn,hb⟩:=ZL hd;rw[fG]at hb
 unfold jH rD;rw[hd,fG,TW hb,ay hn];simp
theorem PK(l:List dZ)(h:dZ)(k:Nat):(rD l h k).length<=2*l.length+1:=by
 unfold rD;have h1:=kY (λx=>decide (fP x<fP h)) (l.take k)
 have h2:=kY (λx=>decide (fP h<fP x)) (l.take k)
 have h3:=xU k l;have h4:(l.take k).length<=l.length:=by rw[bT];omega
 simp only[aZ];split<;>simp<;>omega
end Wh
