/- Texts of the claim, joined. -/
import Derived.WalkKit
import Derived.Lib.Hide
import Derived.Test.YtniaecolikhmeaaGreatDoorProg
import Derived.SizedLaws
set_option maxHeartbeats 20000000
set_option maxRecDepth 100000
set_option linter.all false
theorem Go.RowKit.Hid.O{p:Prop}(h:Go.RowKit.Hid p):p:=h
namespace Wh
open Go Go.RowKit Go.Proofs
abbrev gy:=@Addr.add_lit
abbrev nM:=@Array.all_eq_true_iff_forall_mem
abbrev pI:=@Array.ext_getElem?
abbrev lg:=@Array.getD_eq_getD_getElem?
abbrev CJ:=@Array.getElem?_append
abbrev zh:=@Array.getElem?_append_left
abbrev iF:=@Array.getElem?_eq_none
abbrev bI:=@Array.getElem?_eq_some_iff
abbrev CG:=@Array.getElem?_modify
abbrev su:=@Array.getElem?_setIfInBounds
abbrev Cm:=@Array.getElem?_toList
abbrev oP:=@Array.length_toList
abbrev gW:=@Array.replicate_succ
abbrev iG:=@Array.replicate_zero
abbrev Dt:=@Array.size_replicate
abbrev vC:=@Array.size_setIfInBounds
abbrev sV:=@Below.grown
abbrev oO:=@Below.heap_alloc
abbrev aj:=@Below.refl
abbrev jw:=@Below.size
abbrev jZ:=@Below.trans
abbrev dF:=@Bool.and_eq_true
abbrev Dh:=@Bool.and_false
abbrev uH:=@Bool.eq_iff_iff
abbrev vZ:=@Bool.false_and
abbrev iV:=@Bool.false_eq_true
abbrev zu:=@Bool.not_eq_false'
abbrev nI:=@Bool.not_eq_true
abbrev qp:=@Bool.not_eq_true'
abbrev rW:=@Bool.not_false
abbrev zK:=@Bool.not_true
abbrev jY:=@Bool.or_eq_true
abbrev lQ:=@Bool.true_and
abbrev DU:=@ByteArray.ext
abbrev uG:=@Classical.byContradiction
abbrev Dq:=@Classical.not_forall
abbrev BA:=@DataW.weights_mem_each
abbrev bD:=@Hid.O
abbrev yG:=@Int.add_mul
abbrev je:=@Int.add_zero
abbrev iT:=@Int.le_refl
abbrev xX:=@Int.le_trans
abbrev wR:=@Int.lt_trichotomy
abbrev xI:=@Int.mul_le_mul_of_nonneg_right
abbrev Df:=@Int.mul_nonneg
abbrev qx:=@Int.sub_zero
abbrev dn:=@Int.toNat_natCast
abbrev jQ:=@IntKind.wrap_i64
abbrev aP:=@IntWalk.i64_in
abbrev ah:=@Lib.hid
abbrev tZ:=@List.Pairwise.filter
abbrev qO:=@List.Pairwise.imp_of_mem
abbrev zZ:=@List.all_eq_false
abbrev bJ:=@List.all_eq_true
abbrev zJ:=@List.any_cons
abbrev qo:=@List.any_eq_false
abbrev kU:=@List.any_eq_true
abbrev gZ:=@List.append_assoc
abbrev jd:=@List.append_nil
abbrev iM:=@List.append_toArray
abbrev tu:=@List.cons.inj
abbrev gG:=@List.cons_append
abbrev vP:=@List.countP_append
abbrev Cj:=@List.countP_singleton
abbrev rJ:=@List.drop_append_of_le_length
abbrev yX:=@List.drop_drop
abbrev jU:=@List.drop_eq_getElem_cons
abbrev Bz:=@List.drop_eq_nil_of_le
abbrev xH:=@List.drop_length
abbrev rQ:=@List.drop_of_length_le
abbrev DT:=@List.drop_set_of_lt
abbrev bU:=@List.drop_succ_cons
abbrev dH:=@List.drop_zero
abbrev jT:=@List.eq_nil_of_length_eq_zero
abbrev nV:=@List.eraseIdx_eq_take_drop_succ
abbrev qL:=@List.ext_getElem
abbrev ng:=@List.ext_getElem?
abbrev bY:=@List.filterMap_cons
abbrev Ag:=@List.filterMap_cons_some
abbrev cO:=@List.filterMap_nil
abbrev jH:=@List.filter_append
abbrev kS:=@List.filter_cons
abbrev kZ:=@List.filter_cons_of_neg
abbrev jC:=@List.filter_cons_of_pos
abbrev rP:=@List.filter_eq_nil_iff
abbrev oN:=@List.filter_eq_self
abbrev BN:=@List.find?_cons
abbrev gQ:=@List.flatMap_append
abbrev lI:=@List.flatMap_cons
abbrev xG:=@List.flatMap_def
abbrev lH:=@List.foldl_append
abbrev dA:=@List.foldl_cons
abbrev dL:=@List.foldl_nil
abbrev fK:=@List.getD_eq_getElem?_getD
abbrev fE:=@List.getElem?_append_left
abbrev jO:=@List.getElem?_append_right
abbrev wE:=@List.getElem?_cons_succ
abbrev oM:=@List.getElem?_cons_zero
abbrev mP:=@List.getElem?_drop
abbrev bQ:=@List.getElem?_eq_getElem
abbrev qg:=@List.getElem?_eq_none
abbrev fA:=@List.getElem?_eq_some_iff
abbrev lG:=@List.getElem?_map
abbrev qF:=@List.getElem?_mapIdx
abbrev yF:=@List.getElem?_range
abbrev qm:=@List.getElem?_set
abbrev Dp:=@List.getElem?_set_ne
abbrev Bv:=@List.getElem?_set_self
abbrev jG:=@List.getElem?_take
abbrev Ci:=@List.getElem?_toArray
abbrev qc:=@List.getElem?_zipWith
abbrev pF:=@List.getElem_cons_succ
abbrev Bq:=@List.getElem_cons_zero
abbrev AP:=@List.getElem_map
abbrev lN:=@List.getElem_mapIdx
abbrev dh:=@List.getElem_mem
abbrev bg:=@List.getElem_of_mem
abbrev AO:=@List.getElem_set
abbrev DR:=@List.getElem_set_ne
abbrev pY:=@List.getElem_set_self
abbrev wQ:=@List.getElem_take
abbrev wC:=@List.getLast?_cons_cons
abbrev zH:=@List.getLast?_eq_getElem?
abbrev aX:=@List.length_append
abbrev bP:=@List.length_cons
abbrev jv:=@List.length_drop
abbrev qE:=@List.length_eraseIdx
abbrev kR:=@List.length_filter_le
abbrev gX:=@List.length_map
abbrev dQ:=@List.length_nil
abbrev uF:=@List.length_pos_iff
abbrev Ce:=@List.length_replicate
abbrev jL:=@List.length_set
abbrev pX:=@List.length_singleton
abbrev bC:=@List.length_take
abbrev yE:=@List.length_take_le
abbrev DN:=@List.length_zipWith
abbrev gJ:=@List.map_append
abbrev lM:=@List.map_congr_left
abbrev dJ:=@List.map_cons
abbrev Aq:=@List.map_map
abbrev lD:=@List.map_nil
abbrev kC:=@List.map_toArray
abbrev xE:=@List.map_zipWith
abbrev jD:=@List.mem_append
abbrev tY:=@List.mem_append_left
abbrev Cc:=@List.mem_append_right
abbrev fF:=@List.mem_cons
abbrev aY:=@List.mem_cons_of_mem
abbrev bW:=@List.mem_cons_self
abbrev jX:=@List.mem_filter
abbrev oL:=@List.mem_flatMap
abbrev xQ:=@List.mem_iff_getElem?
abbrev kN:=@List.mem_map
abbrev zG:=@List.mem_of_find?_eq_some
abbrev qC:=@List.mem_of_getElem?
abbrev Dn:=@List.mem_of_mem_drop
abbrev Af:=@List.mem_of_mem_eraseIdx
abbrev oq:=@List.mem_of_mem_take
abbrev jq:=@List.mem_range
abbrev ig:=@List.mem_singleton
abbrev fJ:=@List.nil_append
abbrev uD:=@List.nodup_cons
abbrev AL:=@List.not_all_eq_any_not
abbrev mg:=@List.not_mem_nil
abbrev kY:=@List.pairwise_append
abbrev rG:=@List.pairwise_cons
abbrev ji:=@List.pairwise_iff_getElem
abbrev wY:=@List.pairwise_lt_range
abbrev nZ:=@List.pairwise_map
abbrev qZ:=@List.pairwise_singleton
abbrev jh:=@List.push_toArray
abbrev nU:=@List.range_succ
abbrev Dl:=@List.replicate_succ'
abbrev aQ:=@List.setIfInBounds_toArray
abbrev nP:=@List.set_append_right
abbrev bH:=@List.set_cons_succ
abbrev bG:=@List.set_cons_zero
abbrev vY:=@List.set_eq_take_append_cons_drop
abbrev EN:=@List.set_set
abbrev iR:=@List.size_toArray
abbrev uz:=@List.sum_append
abbrev iL:=@List.sum_cons
abbrev yD:=@List.takeWhile_cons
abbrev jW:=@List.take_append_drop
abbrev oH:=@List.take_append_of_le_length
abbrev dR:=@List.take_length
abbrev kJ:=@List.take_of_length_le
abbrev DL:=@List.take_set_of_le
abbrev aG:=@List.take_succ_cons
abbrev bM:=@List.take_succ_eq_append_getElem
abbrev oG:=@List.take_take
abbrev aS:=@List.take_zero
abbrev DK:=@List.zip_eq_zipWith
abbrev Dk:=@MapKept.run_checkKey
abbrev yC:=@MapKept.run_findKey
abbrev wX:=@MapKept.run_getObj_map
abbrev jS:=@Nat.add_mul
abbrev fZ:=@Nat.add_zero
abbrev Cb:=@Nat.div_lt_iff_lt_mul
abbrev vN:=@Nat.eq_zero_or_pos
abbrev mV:=@Nat.le_of_eq
abbrev iQ:=@Nat.le_of_lt
abbrev xC:=@Nat.le_of_not_lt
abbrev ay:=@Nat.le_refl
abbrev sU:=@Nat.le_succ
abbrev aU:=@Nat.le_trans
abbrev aJ:=@Nat.lt_of_lt_of_le
abbrev pG:=@Nat.lt_or_eq_of_le
abbrev rH:=@Nat.lt_or_ge
abbrev bf:=@Nat.lt_succ_iff_lt_or_eq
abbrev BM:=@Nat.min_def
abbrev jK:=@Nat.min_eq_left
abbrev AB:=@Nat.mod_eq_of_lt
abbrev vW:=@Nat.mul_le_mul
abbrev kE:=@Nat.mul_le_mul_right
abbrev sS:=@Nat.mul_one
abbrev Fp:=@Nat.mul_pos
abbrev EM:=@Nat.pow_succ
abbrev uV:=@Nat.sub_self
abbrev fM:=@Nat.zero_add
abbrev aN:=@Nat.zero_le
abbrev EL:=@Nat.zero_mul
abbrev uy:=@Ne.symm
abbrev xW:=@Oper.wp_mono
abbrev tq:=@Option.bind_some
abbrev ku:=@Option.getD_some
abbrev zq:=@Option.isSome_none
abbrev vK:=@Option.isSome_some
abbrev jr:=@Option.map_some
abbrev lF:=@Option.some.inj
abbrev mZ:=@Option.some.injEq
abbrev DJ:=@Prod.mk.injEq
abbrev gY:=@Result.andThen_ok
abbrev vV:=@RowKit.Hid.O
abbrev iP:=@Sem.run_bind
abbrev jc:=@Sem.run_pure
abbrev tX:=@World.cell?_alloc_lt
abbrev yc:=@World.cell?_of_block
abbrev zo:=@World.grownBy.refl
abbrev oK:=@World.grownBy_alloc
abbrev DI:=@World.ownsRow.alloc
abbrev qK:=@World.ownsRow.lt
abbrev dK:=@World.size_alloc
abbrev yw:=@and_assoc
abbrev ql:=@and_false
abbrev ni:=@and_true
abbrev kL:=@beq_eq_false_iff_ne
abbrev bV:=@bodyPost_ret
abbrev nT:=@callsIn_of_wp
abbrev iy:=@callsIn_wide
abbrev nO:=@congrArg
abbrev iE:=@decide_eq_false
abbrev oD:=@decide_eq_true
abbrev dI:=@decide_eq_true_eq
abbrev wB:=@false_iff
abbrev xP:=@false_or
abbrev qR:=@getD_set_ne
abbrev uY:=@if_false
abbrev au:=@if_neg
abbrev aB:=@if_pos
abbrev wW:=@if_true
abbrev Es:=@ite_false
abbrev wz:=@leaves_cons
abbrev yu:=@mem_ready
abbrev rZ:=@not_true_eq_false
abbrev rY:=@of_decide_eq_true
abbrev lC:=@or_false
abbrev uU:=@results_none
abbrev nY:=@rounds_succ
abbrev qQ:=@run_firstCells_some
abbrev wP:=@run_storeCells_at
abbrev mJ:=@run_underlying
abbrev EK:=@setRow_other
abbrev oJ:=@true_and
abbrev uX:=@true_iff
abbrev qY:=@wpIn_wide
abbrev eP:=@wpList_nil
abbrev jo:=@wpList_plain
abbrev jP:=@wpList_store_row
abbrev yV:=@wp_loop_rounds
abbrev DF:=@wp_region_any
end Wh
namespace Wh
open Go Go.RowKit
section
instance cWN:Coe World Nat:=⟨λw=>w.heap.size⟩
instance cNA:Coe Nat Addr:=⟨λb=>⟨b,0,none⟩⟩
instance cIV:Coe Int Value:=⟨λi=>.int .i64 i⟩
instance cNV:Coe Nat Value:=⟨λn=>.int .i64 (n:Int)⟩
inductive CZ where
 |mk
inductive CN where
 |mk
inductive CA where
 |mk
inductive CB where
 |mk
def zI:CZ:=.mk
def nS:CN:=.mk
def TL:CA:=.mk
def NV:CB:=.mk
instance cZV:Coe CZ Value:=⟨λ_=>.int .i64 0⟩
instance cNS:Coe CN Value:=⟨λ_=>.slice none 0 0⟩
instance cAV:Coe CA (Array Value):=⟨λ_=>#[.slice none 0 0,.slice none 0 0,.slice none 0 0,.slice none 0 0,.slice none 0 0,.slice none 0 0,.slice none 0 0]⟩
instance cBV:Coe CB (Array Value):=⟨λ_=>#[.int .i64 0,.int .i64 0,.int .i64 0,.int .i64 0,.int .i64 0,.slice none 0 0]⟩
theorem fD{a b c:World}(h:Below a.heap.size a b)(h':Below b.heap.size b c):Below a.heap.size a c:=h.trans (h'.mono h.size)
end
end Wh
namespace Wh
structure Bin where
 front:Bool
 room:Int
 low:Int
 high:Int
structure dG where
 dP:List Bin
 aW:List Int
structure Line where
 dW:Int
 jk:Int
 qI:Int
 eU:Int
structure Order where
 eH:Int
 aH:List Line
structure eX where
 aC:Int
 aK:Int
 bin:Int
 n:Int
structure Move where
 dW:Int
 src:Int
 dst:Int
 n:Int
structure aI where
 on:List (List Int)
 ak:List Order
 aA:List eX
 aF:List Move
 jf:List Int
 O:List Int
 dB:List Int
structure Total where
 on:Int
 held:Int
 eU:Int
 qI:Int
structure Qw where
 eH:Int
 a:Int
 b:Int
 c:Int
 n:Int
 aH:List Line
instance:DecidableEq Line:=λx y=>
 if h:x.dW=y.dW/\x.jk=y.jk/\x.qI=y.qI/\x.eU=y.eU then
  isTrue (by cases x;cases y;simp at h;simp[h])
 else isFalse (by rintro rfl;simp at h)
instance:DecidableEq eX:=λx y=>
 if h:x.aC=y.aC/\x.aK=y.aK/\x.bin=y.bin/\x.n=y.n then
  isTrue (by cases x;cases y;simp at h;simp[h])
 else isFalse (by rintro rfl;simp at h)
instance:DecidableEq Move:=λx y=>
 if h:x.dW=y.dW/\x.src=y.src/\x.dst=y.dst/\x.n=y.n then
  isTrue (by cases x;cases y;simp at h;simp[h])
 else isFalse (by rintro rfl;simp at h)
instance:DecidableEq Order:=λx y=>
 if h:x.eH=y.eH/\x.aH=y.aH then
  isTrue (by cases x;cases y;simp at h;simp[h])
 else isFalse (by rintro rfl;simp at h)
instance:DecidableEq aI:=λx y=>
 if h:x.on=y.on/\x.ak=y.ak/\x.aA=y.aA/\x.aF=y.aF/\x.jf=y.jf/\x.O=y.O/\x.dB=y.dB then
  isTrue (by cases x;cases y;simp at h;simp[h])
 else isFalse (by rintro rfl;simp at h)
instance:DecidableEq Total:=λx y=>
 if h:x.on=y.on/\x.held=y.held/\x.eU=y.eU/\x.qI=y.qI then
  isTrue (by cases x;cases y;simp at h;simp[h])
 else isFalse (by rintro rfl;simp at h)
def jvG:Bin:=⟨false,0,0,0⟩
def IU:Line:=⟨0,0,0,0⟩
def Ig:Order:=⟨0,[]⟩
def Pn:eX:=⟨0,0,0,0⟩
def Kv:Move:=⟨0,0,0,0⟩
def kF:aI:=⟨[],[],[],[],[],[],[]⟩
def aZ(l:List Int)(i:Nat):Int:=l.getD i 0
def fO(l:List (List Int))(i:Nat):List Int:=l.getD i []
def mG(l:List Bin)(i:Nat):Bin:=l.getD i jvG
def fG(l:List Line)(i:Nat):Line:=l.getD i IU
def bK(l:List Order)(i:Nat):Order:=l.getD i Ig
def bZ(l:List Move)(i:Nat):Move:=l.getD i Kv
def dM(n lo hi:Int):Bool:=decide (lo<=n)&&decide (n<=hi)
def Dw(b:Bin):Bool:=dM b.room 0 1000&&dM b.high 0 200&&dM b.low 0 b.high
def Fz(s:Int):Bool:=dM s 1 9
def fU(p:dG):Int:=
 if !(dM p.dP.length 1 6&&dM p.aW.length 1 3)then 2
 else if !(p.dP.all Dw&&p.aW.all Fz)then 3 else 0
def dG.bin(p:dG)(b:Nat):Bin:=mG p.dP b
def FV(p:dG)(f:Bool):List Nat:=(List.range p.dP.length).filter λb=>(p.bin b).front==f
def vT(p:dG)(f:Bool)(k:Nat):List Nat:=(List.range k).filter λb=>(p.bin b).front==f
def yI(l:List Nat):List Int:=l.map λn:Nat=>(n:Int)
def way(p:dG):List Nat:=FV p true++FV p false
def lK(p:dG)(b:Int):Bool:=dM b 0 (p.dP.length - 1)
def iO(p:dG)(g:Int):Bool:=dM g 0 (p.aW.length - 1)
def CQ(p:dG)(row:List Int):Bool:=decide (row.length=p.aW.length)&&row.all (dM · 0 200)
def Jq(p:dG)(on:List (List Int)):Bool:=decide (on.length=p.dP.length)&&on.all (CQ p)
def iU(p:dG)(on:List (List Int)):Int:=
 if fU p≠0 then fU p else if Jq p on then 0 else 1
def qV(p:dG)(on:List (List Int))(b g:Int):Int:=
 if iU p on≠0 then iU p on else if lK p b&&iO p g then 0 else 3
def cell(on:List (List Int))(b g:Nat):Int:=aZ (fO on b) g
def setCell(on:List (List Int))(b g:Nat)(n:Int):List (List Int):=on.set b ((fO on b).set g n)
def ny(f:Nat->Int):Nat->Int
 |0=>0
 |k+1=>ny f k+f k
def MZ(p:dG)(on:List (List Int))(b:Nat):Int:=ny (λg=>cell on b g*aZ p.aW g) p.aW.length
def Du(on:List (List Int))(g:Nat):Int:=ny (λb=>cell on b g) on.length
def jhW(p:dG)(on:List (List Int))(g:Int):Int:=if qV p on 0 g=0 then Du on g.toNat else 0
def put(p:dG)(on:List (List Int))(b g n:Int):List (List Int)×Int:=
 if qV p on b g≠0 then([],qV p on b g)
 else if !(dM n (-(cell on b.toNat g.toNat)) (200 - cell on b.toNat g.toNat))then([],3)
 else(setCell on b.toNat g.toNat (cell on b.toNat g.toNat+n),0)
def lq(h:eX):Bool:=dM h.aC 0 3&&dM h.aK 0 2&&dM h.bin 0 5&&dM h.n 1 200
def fP(h:eX):Int:=(h.aC*3+h.aK)*6+h.bin
def hold(l:List eX)(k:Nat):eX:=l.getD k Pn
def iI(l:List eX):Bool:=
 (List.range l.length).all λk=>lq (hold l k)&&(decide (k=0)||decide (fP (hold l (k - 1))<fP (hold l k)))
def lV(l:List eX):Int:=if iI l then 0 else 1
def CP(o ln:Int)(h:eX):Bool:=decide (h.aC=o)&&decide (h.aK=ln)
def vS(o ln b:Int)(h:eX):Bool:=decide (h.aC=o)&&decide (h.aK=ln)&&decide (h.bin=b)
def dD(l:List eX)(o ln b:Int):Int:=match l.find? (vS o ln b)with|some h=>h.n|none=>0
def jE(l:List eX)(h:eX):List eX:=
 l.filter (λx=>decide (fP x<fP h))++(if h.n=0 then []else [h])++l.filter (λx=>decide (fP h<fP x))
def add(l:List eX)(h:eX):List eX×Int:=
 if !(iI l)then([],1)else if !(lq h)then([],1)
 else if 200<dD l h.aC h.aK h.bin+h.n then([],3)
 else(jE l {h with n:=dD l h.aC h.aK h.bin+h.n},0)
def drop(l:List eX)(o ln b:Int):List eX×Int×Int:=
 if !(iI l)then([],0,1)else if dD l o ln b=0 then([],0,4)
 else(jE l ⟨o,ln,b,0⟩,dD l o ln b,0)
def kept(l:List eX)(o ln:Int):Int:=((l.filter (CP o ln)).map (·.n)).sum
def N8(l:List eX)(o ln:Int):Int×Int:=if !(iI l)then(0,1)else(kept l o ln,0)
def aI.aC(s:aI)(o:Nat):Order:=bK s.ak o
def aI.aK(s:aI)(o k:Nat):Line:=fG (s.aC o).aH k
def begin(p:dG):aI:=
 let z:=List.replicate p.aW.length 0
 ⟨List.replicate p.dP.length z,[],[],[],z,z,z⟩
def xM(s:aI)(b g:Int)(h:eX):Int:=if h.bin=b/\(s.aK h.aC.toNat h.aK.toNat).dW=g then h.n else 0
def BI(b g:Int)(x:Move):Int:=if x.src=b/\x.dW=g then x.n else 0
def toN(b g:Int)(x:Move):Int:=if x.dst=b/\x.dW=g then x.n else 0
def pO(s:aI)(b g:Int):Int:=(s.aA.map (xM s b g)).sum
def mF(l:List Move)(b g:Int):Int:=(l.map (BI b g)).sum
def bound(s:aI)(b g:Int):Int:=pO s b g+mF s.aF b g
def MO(l:List Move)(b g:Int):Int:=(l.map (toN b g)).sum
def iC(s:aI)(b g:Int):Int:=MO s.aF b g
def ug(p:dG)(x:Line):Bool:=iO p x.dW&&dM x.jk 1 200&&dM x.qI 0 x.jk&&dM x.eU 0 x.jk
def xJ(p:dG)(o:Order):Bool:=dM o.eH 0 2&&o.aH.all (ug p)
def zy(p:dG)(s:aI)(h:eX):Bool:=
 decide (h.aC<s.ak.length)&&decide (h.aK<(s.aC h.aC.toNat).aH.length)&&decide (h.bin<p.dP.length)
def sZ(p:dG)(x:Move):Bool:=iO p x.dW&&lK p x.src&&lK p x.dst&&decide (x.src≠x.dst)&&dM x.n 1 200
def vF(p:dG)(l:List Int)(lo:Int):Bool:=decide (l.length=p.aW.length)&&l.all (dM · lo 1048576)
def J4(s:aI):Bool:=decide (s.ak.length<=4)&&decide (s.aF.length<=8)&&s.ak.all (λo=>dM o.aH.length 1 3)
def oU(p:dG)(s:aI):Bool:=
 s.ak.all (xJ p)&&iI s.aA&&s.aA.all (zy p s)&&s.aF.all (sZ p)&&vF p s.jf 0&&vF p s.O 0&&vF p s.dB (-1048576)
def xR(p:dG)(s:aI)(g:Nat):Bool:=
 decide (Du s.on g=aZ s.jf g - aZ s.O g+aZ s.dB g)&&(List.range p.dP.length).all λb=>decide (bound s b g<=cell s.on b g)
def pq(o:Order):Bool:=o.aH.all λx=>decide (x.qI=x.jk)
def mO(s:aI)(o:Nat)(k:Nat):Bool:=
 let x:=s.aK o k
 let n:=kept s.aA o k
 decide (x.qI+x.eU+n=if(s.aC o).eH=0 then 0 else x.jk)&&!(decide ((s.aC o).eH=2)&&decide (0<n))
def wZ(s:aI)(o:Nat):Bool:=
 !(decide ((s.aC o).eH=1)&&pq (s.aC o))&&(List.range (s.aC o).aH.length).all (mO s o)
def Fv(p:dG)(s:aI):Bool:=
 (List.range p.aW.length).all (xR p s)&&(List.range s.ak.length).all (wZ s)
def aO(p:dG)(s:aI):Int:=
 if iU p s.on≠0 then iU p s.on
 else if !(J4 s)then 2 else if !(oU p s)then 1 else if !(Fv p s)then 7 else 0
def lW(s:aI)(b g:Int):Int:=cell s.on b.toNat g.toNat - bound s b g
def free(p:dG)(s:aI)(b:Int):Int:=
 (p.bin b.toNat).room - ny (λg=>(cell s.on b.toNat g+iC s b g)*aZ p.aW g) p.aW.length
def aI.mD(s:aI)(o k:Nat)(x:Line):aI:=
 {s with ak:=s.ak.set o {s.aC o with aH:=(s.aC o).aH.set k x}}
def uj(s:aI)(o k:Nat)(b:Int)(m:Int):aI:=
 ({s with aA:=jE s.aA ⟨o,k,b,dD s.aA o k b+m⟩}:aI).mD o k {s.aK o k with eU:=(s.aK o k).eU - m}
def uM(o k:Nat)(but:Int):List Nat->aI->Int->aI×Int
 |[],s,n=>(s,n)
 |b::r,s,n=>
  let m:=min n (lW s b (s.aK o k).dW)
  if(b:Int)=but\/m<1 then uM o k but r s n else uM o k but r (uj s o k b m) (n - m)
def qM(p:dG)(s:aI)(o k:Nat)(n but:Int):aI×Int:=uM o k but (way p) s n
def take(p:dG)(s:aI)(o k n but:Int):aI×Int×Int:=
 if aO p s≠0 then(kF,0,aO p s)
 else if !(dM o 0 (s.ak.length - 1))then(kF,0,3)
 else if !(dM k 0 ((s.aC o.toNat).aH.length - 1))||!(dM n 0 200)||!(decide (but= -1)||lK p but)then(kF,0,3)
 else if(s.aC o.toNat).eH≠1 then(kF,0,6)
 else if(s.aK o.toNat k.toNat).eU<n then(kF,0,3)
 else((qM p s o.toNat k.toNat n but).1,(qM p s o.toNat k.toNat n but).2,0)
def rD(p:dG)(s:aI)(b g n:Int):aI×Int:=
 if aO p s≠0 then(kF,aO p s)
 else if !(lK p b&&iO p g&&dM n 1 200)then(kF,3)
 else if free p s b<n*aZ p.aW g.toNat then(kF,5)
 else if 200<cell s.on b.toNat g.toNat+iC s b g+n\/1048576<aZ s.jf g.toNat+n then(kF,2)
 else({s with on:=setCell s.on b.toNat g.toNat (cell s.on b.toNat g.toNat+n),jf:=s.jf.set g.toNat (aZ s.jf g.toNat+n)},0)
def enter(p:dG)(s:aI)(l:List Line):aI×Int:=
 if aO p s≠0 then(kF,aO p s)
 else if 4<=s.ak.length\/!(dM l.length 1 3)then(kF,2)
 else if !(l.all λx=>iO p x.dW&&dM x.jk 1 200)then(kF,3)
 else if !(l.all λx=>decide (x.qI=0)&&decide (x.eU=0))then(kF,1)
 else({s with ak:=s.ak++[⟨0,l⟩]},0)
def MJ(o:Order):Order:=if o.eH=0 then⟨1,o.aH.map λx=>{x with eU:=x.jk}⟩else o
def PU(p:dG)(s:aI)(o k:Nat):aI:=(qM p s o k (s.aK o k).eU (-1)).1
def JA(p:dG)(o:Nat):Nat->aI->aI
 |0,s=>s
 |k+1,s=>PU p (JA p o k s) o k
def Hg(p:dG)(s:aI)(o:Nat):aI:=if(s.aC o).eH=1 then JA p o (s.aC o).aH.length s else s
def jM(p:dG):Nat->aI->aI
 |0,s=>s
 |o+1,s=>Hg p (jM p o s) o
def EY(p:dG)(s:aI):aI:=jM p s.ak.length {s with ak:=s.ak.map MJ}
def zO(p:dG)(s:aI):aI×Int:=
 if aO p s≠0 then(kF,aO p s)else(EY p s,0)
def yj(s:aI)(o:Nat):aI:=
 {s with aA:=s.aA.filter (λh=>decide (h.aC≠o)),ak:=s.ak.set o ⟨2,(s.aC o).aH.map λx=>{x with eU:=x.jk - x.qI}⟩}
def Ad(p:dG)(s:aI)(o:Int):aI×Int:=
 if aO p s≠0 then(kF,aO p s)
 else if !(dM o 0 (s.ak.length - 1))then(kF,4)
 else if(s.aC o.toNat).eH=2 then(kF,6)
 else(yj s o.toNat,0)
def close(s:aI)(o:Nat):aI:=if pq (s.aC o)then {s with ak:=s.ak.set o {s.aC o with eH:=2}}else s
def qh(s:aI)(o k b:Nat)(held n:Int):aI:=
 let x:=s.aK o k
 ({s with on:=setCell s.on b x.dW.toNat (cell s.on b x.dW.toNat - n),O:=s.O.set x.dW.toNat (aZ s.O x.dW.toNat+n),aA:=jE s.aA ⟨o,k,b,0⟩}:aI).mD o k {x with qI:=x.qI+n,eU:=x.eU+held - n}
def BF(p:dG)(s:aI)(o k b:Nat)(n:Int):aI:=
 let held:=dD s.aA o k b
 close (qM p (qh s o k b held n) o k (held - n) b).1 o
def pick(p:dG)(s:aI)(o k b n:Int):aI×Int:=
 if aO p s≠0 then(kF,aO p s)
 else if dD s.aA o k b=0 then(kF,4)
 else if !(dM n 0 (dD s.aA o k b))then(kF,3)
 else if 1048576<aZ s.O (s.aK o.toNat k.toNat).dW.toNat+n then(kF,2)
 else(BF p s o.toNat k.toNat b.toNat n,0)
def IQ(p:dG)(s:aI)(b g f:Nat):Int:=
 min (min ((p.bin b).high - cell s.on b g - iC s b g) (lW s f g)) ((free p s b).tdiv (aZ p.aW g))
def Jl(p:dG)(s:aI)(b g f:Nat):aI:=
 if 8<=s.aF.length then s else if 0<IQ p s b g f then {s with aF:=s.aF++[⟨g,f,b,IQ p s b g f⟩]}else s
def tK(p:dG)(b:Nat)(s:aI)(g:Nat):aI:=
 if cell s.on b g+iC s b g<(p.bin b).low then(FV p false).foldl (λt f=>Jl p t b g f) s else s
def Ph(p:dG)(s:aI):aI:=(FV p true).foldl (λt b=>(List.range p.aW.length).foldl (tK p b) t) s
def fill(p:dG)(s:aI):aI×Int:=
 if aO p s≠0 then(kF,aO p s)else(Ph p s,0)
def BR(s:aI)(k:Nat)(n:Int):aI:=
 let x:=bZ s.aF k
 let on1:=setCell s.on x.src.toNat x.dW.toNat (cell s.on x.src.toNat x.dW.toNat - n)
 {s with on:=setCell on1 x.dst.toNat x.dW.toNat (cell on1 x.dst.toNat x.dW.toNat+n),aF:=s.aF.eraseIdx k}
def D6(p:dG)(s:aI)(k n:Int):aI×Int:=
 if aO p s≠0 then(kF,aO p s)
 else if !(dM k 0 (s.aF.length - 1))then(kF,4)
 else if !(dM n 0 (bZ s.aF k.toNat).n)then(kF,3)
 else if 200<cell s.on (bZ s.aF k.toNat).dst.toNat (bZ s.aF k.toNat).dW.toNat+n then(kF,2)
 else(BR s k.toNat n,0)
def VU:dG:=⟨[⟨false,100,0,0⟩,⟨true,30,4,8⟩,⟨false,60,0,0⟩],[2,3]⟩
def idxOf{α:Type}(p:α->Bool)(l:List α):Int:=if l.any p then(l.findIdx p:Int)else -1
theorem MB{α:Type}{p:α->Bool}{l:List α}{k:Nat}(hk:k<l.length)(h:p l[k]=true)(hn:∀j (hj:j<k),p (l[j]'(by omega))=false):(k:Int)=idxOf p l:=by
 unfold idxOf;rw[aB (kU.2 ⟨l[k],dh hk,h⟩),(List.findIdx_eq hk).2 ⟨h,hn⟩]
theorem H6{α:Type}{p:α->Bool}{l:List α}(hn:∀j (hj:j<l.length),p l[j]=false):(-1:Int)=idxOf p l:=by
 unfold idxOf;rw[au];rw[kU];rintro⟨x,hx,h⟩;obtain⟨j,hj,rfl⟩:=bg hx;rw[hn j hj]at h
 exact absurd h (by decide)
theorem JF{α:Type}(p:α->Bool)(l:List α):decide (0<=idxOf p l)=l.any p:=by
 unfold idxOf;cases h:l.any p
 ·simp
 ·simp
def ZB(f:Nat->Int):Nat->Int
 |0=>f 0
 |k+1=>min (ZB f k) (f (k+1))
def ZC(f:Nat->Int):Nat->Int
 |0=>f 0
 |k+1=>max (ZC f k) (f (k+1))
theorem OG{f:Nat->Int}{lo:Int}:∀ {k:Nat},lo<=ZB f k↔∀j,j<=k->lo<=f j
 |0=>⟨λh j hj=>by
  obtain rfl:j=0:=by omega
  exact h,λh=>h 0 (ay _)⟩
 |k+1=>by
  have ih:=@OG f lo k;rw[ZB,Int.le_min];constructor
  ·rintro⟨h1,h2⟩ j hj;by_cases he:j=k+1
   ·subst he;exact h2
   ·exact ih.1 h1 j (by omega)
  ·exact λh=>⟨ih.2 λj hj=>h j (by omega),h _ (ay _)⟩
theorem OC{f:Nat->Int}{hi:Int}:∀ {k:Nat},ZC f k<=hi↔∀j,j<=k->f j<=hi
 |0=>⟨λh j hj=>by
  obtain rfl:j=0:=by omega
  exact h,λh=>h 0 (ay _)⟩
 |k+1=>by
  have ih:=@OC f hi k;rw[ZC,Int.max_le];constructor
  ·rintro⟨h1,h2⟩ j hj;by_cases he:j=k+1
   ·subst he;exact h2
   ·exact ih.1 h1 j (by omega)
  ·exact λh=>⟨ih.2 λj hj=>h j (by omega),h _ (ay _)⟩
def D8(l:List Int):Int:=ZB (aZ l) (l.length - 1)
def yN(l:List Int):Int:=ZC (aZ l) (l.length - 1)
theorem OH(p:dG)(f:Bool):(FV p f).Pairwise (·<·):=
 tZ _ wY
theorem Ld(p:dG)(f:Bool):vT p f p.dP.length=FV p f:=rfl
theorem FU{p:dG}{f:Bool}{k:Nat}(h:(mG p.dP k).front=f):vT p f (k+1)=vT p f k++[k]:=by
 unfold vT dG.bin;rw[nU,jH];simp[h]
theorem Hw{p:dG}{f:Bool}{k:Nat}(h:(mG p.dP k).front≠f):vT p f (k+1)=vT p f k:=by
 unfold vT dG.bin;rw[nU,jH];simp[h]
theorem Ea(p:dG)(f:Bool)(k:Nat):(vT p f k).length<=k:=by
 unfold vT;exact aU (kR _ _) (by simp)
theorem D5(l:List Nat):(yI l).length=l.length:=by simp[yI]
theorem UL(l m:List Nat):yI (l++m)=yI l++yI m:=by simp[yI]
theorem Ew{p:dG}{f:Bool}{b:Nat}:b∈FV p f↔b<p.dP.length/\(p.bin b).front=f:=by
 simp[FV]
theorem jaS(p:dG):(FV p true).length+(FV p false).length=p.dP.length:=by
 have h:∀l:List Nat,(l.filter λb=>(p.bin b).front==true).length+(l.filter λb=>(p.bin b).front==false).length=l.length:=by
  intro l;induction l with
  |nil=>rfl
  |cons x l ih=>cases hx:(p.bin x).front<;>simp[hx]at ih ⊢<;>omega
 rw[FV,FV,h,List.length_range]
theorem V4(p:dG):(way p).length=p.dP.length:=by
 rw[way,aX,jaS]
theorem jf6{p:dG}{b:Nat}:b∈way p↔b<p.dP.length:=by
 rw[way,jD,Ew,Ew];cases(p.bin b).front<;>simp
theorem jao(p:dG):(way p).Pairwise λa b=>a≠b/\((p.bin b).front=true->(p.bin a).front=true)/\((p.bin a).front=(p.bin b).front->a<b):=by
 rw[way,kY];refine⟨?_,?_,?_⟩
 ·refine qO ?_ (OH p true)
  intro a b ha hb h;rw[Ew]at ha hb
  exact⟨by omega,λ_=>ha.2,λ_=>h⟩
 ·refine qO ?_ (OH p false)
  intro a b ha hb h;rw[Ew]at ha hb
  exact⟨by omega,λh'=>absurd h' (by rw[hb.2];decide),λ_=>h⟩
 ·intro a ha b hb;rw[Ew]at ha hb
  refine⟨?_,λh'=>absurd h' (by rw[hb.2];decide),λh'=>absurd h' (by rw[ha.2,hb.2];decide)⟩
  rintro rfl;rw[ha.2]at hb
  exact absurd hb.2 (by decide)
theorem zN{f g:Nat->Int}{n:Nat}(h:∀k,k<n->f k=g k):ny f n=ny g n:=by
 induction n with
 |zero=>rfl
 |succ n ih=>rw[ny,ny,ih (λk hk=>h k (by omega)),h n (by omega)]
theorem FK{f g:Nat->Int}{n i:Nat}{d:Int}(hi:i<n)(h:∀k,k<n->k≠i->g k=f k)(hd:g i=f i+d):ny g n=ny f n+d:=by
 induction n with
 |zero=>omega
 |succ n ih=>
  rw[ny,ny];rcases bf.1 hi with hlt|rfl
  ·rw[ih hlt (λk hk hne=>h k (by omega) hne),h n (by omega) (by omega)]
   omega
  ·rw[zN (λk hk=>h k (by omega) (by omega)),hd]
   omega
theorem BP{f:Nat->Int}{n:Nat}{m:Int}(h:∀k,k<n->0<=f k/\f k<=m):0<=ny f n/\ny f n<=n*m:=by
 induction n with
 |zero=>simp[ny]
 |succ n ih=>
  have h1:=ih (λk hk=>h k (by omega))
  have h2:=h n (by omega)
  have h3:((n+1:Nat):Int)*m=n*m+m:=by rw[Int.natCast_add,yG];simp
  rw[ny,h3];omega
theorem E8{l:List Int}{i:Nat}(h:i<l.length):aZ l i=l[i]:=by simp[aZ,h]
theorem AU{l:List (List Int)}{i:Nat}(h:i<l.length):fO l i=l[i]:=by simp[fO,h]
theorem qw{l:List Line}{i:Nat}(h:i<l.length):fG l i=l[i]:=by simp[fG,h]
theorem pJ{l:List Move}{i:Nat}(h:i<l.length):bZ l i=l[i]:=by simp[bZ,h]
theorem uO{l:List Order}{i:Nat}(h:i<l.length):bK l i=l[i]:=by simp[bK,h]
theorem JE{l:List Int}{i j:Nat}{n:Int}(h:i<l.length):aZ (l.set i n) j=if j=i then n else aZ l j:=by
 unfold aZ;simp only[fK]
 by_cases hj:j=i
 ·subst hj;rw[aB rfl,Bv h]
  rfl
 ·rw[au hj,Dp (uy hj)]
theorem rowAt_set{l:List (List Int)}{i j:Nat}{r:List Int}(h:i<l.length):fO (l.set i r) j=if j=i then r else fO l j:=by
 unfold fO;simp only[fK]
 by_cases hj:j=i
 ·subst hj;rw[aB rfl,Bv h]
  rfl
 ·rw[au hj,Dp (uy hj)]
theorem jdK{on:List (List Int)}{b g b' g':Nat}{n:Int}(hb:b<on.length)(hg:g<(fO on b).length):
  cell (setCell on b g n) b' g'=if b'=b/\g'=g then n else cell on b' g':=by
 unfold cell setCell;rw[rowAt_set hb];by_cases h1:b'=b
 ·subst h1;rw[aB rfl,JE hg];simp only[oJ]
 ·rw[au h1,au (λh=>h1 h.1)]
theorem qj{on:List (List Int)}{b g:Nat}{n:Int}:(setCell on b g n).length=on.length:=by simp[setCell]
theorem uN{on:List (List Int)}{b g i:Nat}{n:Int}:(fO (setCell on b g n) i).length=(fO on i).length:=by
 unfold setCell;by_cases hb:b<on.length
 ·rw[rowAt_set hb];split
  ·rename_i h;subst h;simp
  ·rfl
 ·rw[List.set_eq_of_length_le (by omega)]
theorem dZ{n lo hi:Int}:dM n lo hi=true↔lo<=n/\n<=hi:=by simp[dM]
theorem mY{n lo hi:Int}:dM n lo hi=false↔n<lo\/hi<n:=by
 have:=@dZ n lo hi;cases h:dM n lo hi<;>simp[h]at this ⊢<;>omega
theorem zA{p:dG}{b:Int}:lK p b=true↔0<=b/\b<p.dP.length:=by rw[lK,dZ];omega
theorem wI{p:dG}{g:Int}:iO p g=true↔0<=g/\g<p.aW.length:=by rw[iO,dZ];omega
theorem Iy{p:dG}{on:List (List Int)}:Jq p on=true↔
  on.length=p.dP.length/\∀b,b<on.length->(fO on b).length=p.aW.length/\∀g,g<p.aW.length->0<=cell on b g/\cell on b g<=200:=by
 simp only[Jq,dF,dI,bJ,CQ];constructor
 ·rintro⟨h1,h2⟩;refine⟨h1,λb hb=>?_⟩
  obtain⟨h3,h4⟩:=h2 on[b] (dh hb);unfold cell;rw[AU hb];refine⟨h3,λg hg=>?_⟩
  have h5:=h4 on[b][g] (dh (by omega))
  rw[dZ]at h5
  rw[E8 (by omega)]
  exact h5
 ·rintro⟨h1,h2⟩;refine⟨h1,λrow hr=>?_⟩
  obtain⟨b,hb,rfl⟩:=bg hr;obtain⟨h3,h4⟩:=h2 b hb;unfold cell at h4
  rw[AU hb]at h3 h4
  refine⟨h3,λx hx=>?_⟩
  obtain⟨g,hg,rfl⟩:=bg hx;have h5:=h4 g (by omega)
  rw[E8 hg]at h5
  rw[dZ];exact h5
theorem jR{p:dG}{on:List (List Int)}:iU p on=0↔fU p=0/\Jq p on=true:=by
 unfold iU;by_cases h:fU p=0
 ·simp[h]
 ·simp[h]
theorem NY{p:dG}{on:List (List Int)}{b g:Int}:qV p on b g=0↔iU p on=0/\lK p b=true/\iO p g=true:=by
 unfold qV;by_cases h:iU p on=0
 ·simp only[h,ne_eq,rZ,Es,oJ,dF];split<;>simp_all
 ·simp[h]
theorem Bd{p:dG}:fU p=0↔(1<=p.dP.length/\p.dP.length<=6)/\(1<=p.aW.length/\p.aW.length<=3)/\(∀b∈p.dP,Dw b=true)/\∀x∈p.aW,Fz x=true:=by
 unfold fU;by_cases h1:(dM p.dP.length 1 6&&dM p.aW.length 1 3)=true
 ·simp only[h1,zK,iV,Es];simp only[dF,dZ]at h1
  by_cases h2:(p.dP.all Dw&&p.aW.all Fz)=true
  ·simp only[h2,zK,iV,Es,uX];simp only[dF,bJ]at h2
   exact⟨by omega,by omega,h2.1,h2.2⟩
  ·simp only[nI]at h2
   simp only[h2,rW,ite_true];constructor
   ·intro h;omega
   ·rintro⟨_,_,h3,h4⟩;simp[bJ.2 h3,bJ.2 h4]at h2
 ·simp only[nI]at h1
  simp only[h1,rW,ite_true];constructor
  ·intro h;omega
  ·rintro⟨h3,h4,_⟩;have:(dM p.dP.length 1 6&&dM p.aW.length 1 3)=true:=by
    simp only[dF,dZ];omega
   rw[this]at h1
   exact absurd h1 (by decide)
theorem KE{l:List Bin}{i:Nat}(h:i<l.length):mG l i=l[i]:=by simp[mG,h]
theorem Iq{p:dG}(h:dM p.dP.length 1 6=false\/dM p.aW.length 1 3=false):fU p=2:=by
 unfold fU;rcases h with h|h<;>simp[h]
theorem LX{p:dG}(h1:dM p.dP.length 1 6=true)(h2:dM p.aW.length 1 3=true){k:Nat}(hk:k<p.dP.length)(h:Dw (mG p.dP k)=false):fU p=3:=by
 unfold fU;rw[h1,h2];have:(p.dP.all Dw)=false:=by
  rw[zZ];exact⟨p.dP[k],dh hk,by rw[KE hk]at h;rw[h];decide⟩
 simp[this]
theorem KC{p:dG}(h1:dM p.dP.length 1 6=true)(h2:dM p.aW.length 1 3=true){k:Nat}(hk:k<p.aW.length)(h:Fz (aZ p.aW k)=false):fU p=3:=by
 unfold fU;rw[h1,h2];have:(p.aW.all Fz)=false:=by
  rw[zZ];exact⟨p.aW[k],dh hk,by rw[E8 hk]at h;rw[h];decide⟩
 simp[this]
theorem TA{p:dG}(h1:dM p.dP.length 1 6=true)(h2:dM p.aW.length 1 3=true)(h3:∀k,k<p.dP.length->Dw (mG p.dP k)=true)(h4:∀k,k<p.aW.length->Fz (aZ p.aW k)=true):fU p=0:=by
 rw[dZ]at h1 h2
 rw[Bd];refine⟨by omega,by omega,λb hb=>?_,λx hx=>?_⟩
 ·obtain⟨i,hi,rfl⟩:=bg hb;have:=h3 i hi;rwa [KE hi]at this
 ·obtain⟨i,hi,rfl⟩:=bg hx;have:=h4 i hi;rwa [E8 hi]at this
theorem Vf(b:Bin):(dM b.room 0 1000=false/\Dw b=false)\/(dM b.room 0 1000=true/\dM b.high 0 200=false/\Dw b=false)\/
  (dM b.room 0 1000=true/\dM b.high 0 200=true/\dM b.low 0 b.high=false/\Dw b=false)\/(dM b.room 0 1000=true/\dM b.high 0 200=true/\dM b.low 0 b.high=true/\Dw b=true):=by
 unfold Dw;cases dM b.room 0 1000<;>cases dM b.high 0 200<;>cases dM b.low 0 b.high<;>simp
theorem jgw(p:dG):(p.dP.any λb=>!Dw b)= !(p.dP.all Dw):=by
 rw[AL]
theorem Y5{p:dG}(h1:dM p.dP.length 1 6=true)(h2:dM p.aW.length 1 3=true)(h:(p.dP.any λb=>!Dw b)=true):fU p=3:=by
 unfold fU;rw[jgw,qp]at h
 rw[h1,h2,h];simp
theorem Ux{p:dG}(h1:dM p.dP.length 1 6=true)(h2:dM p.aW.length 1 3=true)(h:D8 p.aW<1):fU p=3:=by
 have h2':=dZ.1 h2;by_cases hex:∃k,k<p.aW.length/\Fz (aZ p.aW k)=false
 ·obtain⟨k,hk,hk'⟩:=hex;exact KC h1 h2 hk hk'
 ·exfalso
  have kQ:∀k,k<p.aW.length->1<=aZ p.aW k:=λk hk=>by
   by_cases hs:Fz (aZ p.aW k)=true
   ·unfold Fz at hs;rw[dZ]at hs;exact hs.1
   ·exact absurd ⟨k,hk,by simpa using hs⟩ hex
  have:=(OG (f:=aZ p.aW) (lo:=1) (k:=p.aW.length - 1)).2 λj hj=>kQ j (by omega)
  unfold D8 at h
  omega
theorem RV{p:dG}(h1:dM p.dP.length 1 6=true)(h2:dM p.aW.length 1 3=true)(h:9<yN p.aW):fU p=3:=by
 have h2':=dZ.1 h2;by_cases hex:∃k,k<p.aW.length/\Fz (aZ p.aW k)=false
 ·obtain⟨k,hk,hk'⟩:=hex;exact KC h1 h2 hk hk'
 ·exfalso
  have kQ:∀k,k<p.aW.length->aZ p.aW k<=9:=λk hk=>by
   by_cases hs:Fz (aZ p.aW k)=true
   ·unfold Fz at hs;rw[dZ]at hs;exact hs.2
   ·exact absurd ⟨k,hk,by simpa using hs⟩ hex
  have:=(OC (f:=aZ p.aW) (hi:=9) (k:=p.aW.length - 1)).2 λj hj=>kQ j (by omega)
  unfold yN at h
  omega
theorem Ye{p:dG}(h1:dM p.dP.length 1 6=true)(h2:dM p.aW.length 1 3=true)(h:(p.dP.any λb=>!Dw b)=false)(h3:1<=D8 p.aW)(h4:yN p.aW<=9):fU p=0:=by
 have h2':=dZ.1 h2;rw[jgw,zu]at h
 refine TA h1 h2 (λk hk=>?_) λk hk=>?_
 ·rw[KE hk];exact bJ.1 h _ (dh hk)
 ·unfold Fz;rw[dZ];exact⟨(OG.1 h3) k (by omega),(OC.1 h4) k (by omega)⟩
theorem jhG(b:Bin):(dM b.room 0 1000=false/\Dw b=false)\/(dM b.room 0 1000=true/\200<b.high/\Dw b=false)\/
  (dM b.room 0 1000=true/\b.high<=200/\dM b.low 0 b.high=false/\Dw b=false)\/(dM b.room 0 1000=true/\b.high<=200/\dM b.low 0 b.high=true/\Dw b=true):=by
 rcases Vf b with⟨h1,h2⟩|⟨h1,h2,h3⟩|⟨h1,h2,h3,h4⟩|⟨h1,h2,h3,h4⟩
 ·exact .inl ⟨h1,h2⟩
 ·rw[mY]at h2
  by_cases hh:200<b.high
  ·exact .inr (.inl ⟨h1,hh,h3⟩)
  ·exact .inr (.inr (.inl ⟨h1,by omega,by rw[mY];omega,h3⟩))
 ·rw[dZ]at h2
  exact .inr (.inr (.inl ⟨h1,h2.2,h3,h4⟩))
 ·rw[dZ]at h2
  exact .inr (.inr (.inr ⟨h1,h2.2,h3,h4⟩))
theorem jgI{p:dG}(row:List Int)(hn:0<p.aW.length):(row.length≠p.aW.length/\CQ p row=false)\/(row.length=p.aW.length/\D8 row<0/\CQ p row=false)\/
  (row.length=p.aW.length/\0<=D8 row/\200<yN row/\CQ p row=false)\/(row.length=p.aW.length/\0<=D8 row/\yN row<=200/\CQ p row=true):=by
 by_cases h1:row.length=p.aW.length
 ·have key:CQ p row=true↔0<=D8 row/\yN row<=200:=by
   unfold CQ D8 yN;simp only[h1,decide_true,lQ,bJ];rw[OG,OC];constructor
   ·intro h;exact⟨λj hj=>by rw[E8 (by omega)];exact(dZ.1 (h _ (dh _))).1,λj hj=>by rw[E8 (by omega)];exact(dZ.1 (h _ (dh _))).2⟩
   ·rintro⟨h2,h3⟩ x hx;obtain⟨j,hj,rfl⟩:=bg hx;rw[dZ];have:=h2 j (by omega)
    have:=h3 j (by omega)
    rw[E8 hj]at*
    omega
  by_cases h2:D8 row<0
  ·exact .inr (.inl ⟨h1,h2,by rw[<- nI,key];omega⟩)
  ·by_cases h3:200<yN row
   ·exact .inr (.inr (.inl ⟨h1,by omega,h3,by rw[<- nI,key];omega⟩))
   ·exact .inr (.inr (.inr ⟨h1,by omega,by omega,key.2 ⟨by omega,by omega⟩⟩))
 ·exact .inl ⟨h1,by unfold CQ;simp[h1]⟩
theorem jd8{p:dG}{row:List Int}{j:Nat}(hj:j<row.length)(h:dM (aZ row j) 0 200=false):CQ p row=false:=by
 unfold CQ;rw[Bool.and_eq_false_iff];right
 rw[zZ];exact⟨row[j],dh hj,by rw[E8 hj]at h;rw[h];decide⟩
theorem Zq{p:dG}{row:List Int}(hl:row.length=p.aW.length)(h:∀j,j<row.length->dM (aZ row j) 0 200=true):CQ p row=true:=by
 unfold CQ;rw[hl,oD rfl,lQ,bJ];intro x hx;obtain⟨j,hj,rfl⟩:=bg hx;have:=h j hj;rwa [E8 hj]at this
theorem RX(p:dG)(on:List (List Int)):(on.any λr=>!CQ p r)= !(on.all (CQ p)):=by
 rw[AL]
theorem Ob{p:dG}{on:List (List Int)}(h:fU p≠0):iU p on=fU p:=by
 unfold iU;rw[aB h]
theorem PD{p:dG}{on:List (List Int)}(h:fU p=0)(hl:on.length≠p.dP.length):iU p on=1:=by
 unfold iU Jq;simp[h,hl]
theorem PE{p:dG}{on:List (List Int)}(h:fU p=0)(hb:(on.any λr=>!CQ p r)=true):iU p on=1:=by
 rw[RX,qp]at hb
 unfold iU Jq;simp[h,hb]
theorem Oc{p:dG}{on:List (List Int)}(h:fU p=0)(hl:on.length=p.dP.length)(hb:(on.any λr=>!CQ p r)=false):iU p on=0:=by
 rw[RX,zu]at hb
 unfold iU Jq;simp[h,hl,hb]
theorem Pz{p:dG}{on:List (List Int)}(h:fU p=0){k:Nat}(hk:k<on.length)(hb:CQ p (fO on k)=false):iU p on=1:=by
 refine PE h ?_
 rw[kU];exact⟨on[k],dh hk,by rw[AU hk]at hb;rw[hb];rfl⟩
theorem PG{p:dG}{on:List (List Int)}(h:fU p=0)(hl:on.length=p.dP.length)(hb:∀k,k<on.length->CQ p (fO on k)=true):iU p on=0:=by
 refine Oc h hl ?_
 rw[RX,zu,bJ];intro r hr;obtain⟨k,hk,rfl⟩:=bg hr;have:=hb k hk;rwa [AU hk]at this
theorem Hr{p:dG}{on:List (List Int)}(h:iU p on=0){b g:Nat}(hb:b<on.length)(hg:g<p.aW.length):0<=cell on b g/\cell on b g<=200:=
 ((Iy.1 (jR.1 h).2).2 b hb).2 g hg
theorem PW{p:dG}{on:List (List Int)}(h:iU p on=0){b:Nat}(hb:b<on.length):(fO on b).length=p.aW.length:=
 ((Iy.1 (jR.1 h).2).2 b hb).1
theorem PX{p:dG}{on:List (List Int)}(h:iU p on=0):on.length=p.dP.length:=(Iy.1 (jR.1 h).2).1
theorem Ac{p:dG}(h:fU p=0){g:Nat}(hg:g<p.aW.length):1<=aZ p.aW g/\aZ p.aW g<=9:=by
 have h1:=(Bd.1 h).2.2.2 p.aW[g] (dh hg);unfold Fz at h1
 rw[dZ]at h1
 rw[E8 hg];exact h1
theorem JC{p:dG}(h:fU p=0){b:Nat}(hb:b<p.dP.length):(0<=(mG p.dP b).room/\(mG p.dP b).room<=1000)/\(0<=(mG p.dP b).low/\(mG p.dP b).low<=(mG p.dP b).high)/\(0<=(mG p.dP b).high/\(mG p.dP b).high<=200):=by
 have h1:=(Bd.1 h).2.2.1 p.dP[b] (dh hb);rw[<- KE hb]at h1
 simp only[Dw,dF,dZ]at h1
 exact⟨h1.1.1,h1.2,h1.1.2⟩
theorem oI{p:dG}(h:fU p=0):1<=p.dP.length/\p.dP.length<=6/\1<=p.aW.length/\p.aW.length<=3:=by
 have:=Bd.1 h;omega
theorem WO{a b:Int}(ha:0<=a/\a<=200)(hb:1<=b/\b<=9):0<=a*b/\a*b<=1800:=by
 refine⟨Df ha.1 (by omega),?_⟩
 exact xX (xI ha.2 (by omega)) (by omega)
theorem Wj{p:dG}{on:List (List Int)}(h:iU p on=0){b:Nat}(hb:b<on.length){k:Nat}(hk:k<=p.aW.length):
  0<=ny (λg=>cell on b g*aZ p.aW g) k/\ny (λg=>cell on b g*aZ p.aW g) k<=k*1800:=
 BP λ_ hj=>WO (Hr h hb (by omega)) (Ac (jR.1 h).1 (by omega))
theorem Ze{p:dG}{on:List (List Int)}(h:iU p on=0){g:Nat}(hg:g<p.aW.length){k:Nat}(hk:k<=on.length):
  0<=ny (λb=>cell on b g) k/\ny (λb=>cell on b g) k<=k*200:=
 BP λ_ hj=>Hr h (by omega) hg
theorem Nc{p:dG}{on:List (List Int)}{b g:Nat}{n:Int}(h:Jq p on=true)(hn:0<=n/\n<=200)(hb:b<p.dP.length)(hg:g<p.aW.length):
  Jq p (setCell on b g n)=true:=by
 rw[Iy]at h ⊢
 obtain⟨h1,h2⟩:=h;rw[qj];refine⟨h1,λi hi=>?_⟩
 rw[uN];refine⟨(h2 i hi).1,λj hj=>?_⟩
 rw[jdK (by omega) (by rw[(h2 b (by omega)).1];omega)]
 split
 ·exact hn
 ·exact(h2 i hi).2 j hj
def KW(l:List eX):Prop:=l.Pairwise λa b=>fP a<fP b
def fine(l:List eX):Prop:=∀h∈l,lq h=true
def sJ(o ln b:Int):Prop:=(0<=o/\o<=3)/\(0<=ln/\ln<=2)/\(0<=b/\b<=5)
theorem nH{h:eX}:lq h=true↔sJ h.aC h.aK h.bin/\1<=h.n/\h.n<=200:=by
 simp only[lq,dF,dZ,sJ];omega
theorem Zt{a b:eX}(ha:sJ a.aC a.aK a.bin)(hb:sJ b.aC b.aK b.bin)(h:fP a=fP b):a.aC=b.aC/\a.aK=b.aK/\a.bin=b.bin:=by
 unfold sJ at ha hb
 unfold fP at h
 omega
theorem FN{a b:eX}(h:a.aC=b.aC/\a.aK=b.aK/\a.bin=b.bin):fP a=fP b:=by
 unfold fP;rw[h.1,h.2.1,h.2.2]
theorem iZ{l:List eX}{k:Nat}(hk:k<l.length):hold l k=l[k]:=by simp[hold,hk]
theorem gI{l:List eX}:iI l=true↔fine l/\KW l:=by
 simp only[iI,bJ,jq,dF,jY,dI];constructor
 ·intro h;have Jj:∀k,k+1<l.length->fP (hold l k)<fP (hold l (k+1)):=λk hk=>by
   rcases(h (k+1) hk).2 with h1|h1
   ·omega
   ·simpa using h1
  have hmono:∀d i,i+d+1<l.length->fP (hold l i)<fP (hold l (i+d+1)):=by
   intro d;induction d with
   |zero=>exact λi hi=>Jj i (by omega)
   |succ d ih=>
    intro i hi;have h1:=ih i (by omega)
    have h2:=Jj (i+d+1) (by omega)
    rw[show i+(d+1)+1=i+d+1+1 by omega]
    omega
  refine⟨λx hx=>?_,?_⟩
  ·obtain⟨k,hk,rfl⟩:=bg hx;rw[<- iZ hk];exact(h k hk).1
  ·refine ji.2 λi j hi hj hij=>?_
   have:=hmono (j - i - 1) i (by omega)
   rw[show i+(j - i - 1)+1=j by omega,iZ hi,iZ hj]at this
   exact this
 ·rintro⟨h1,h2⟩ k hk;refine⟨by rw[iZ hk];exact h1 _ (dh hk),?_⟩
  by_cases h0:k=0
  ·exact .inl h0
  ·refine .inr ?_
   rw[iZ hk,iZ (show k - 1<l.length by omega)]
   exact ji.1 h2 (k - 1) k (by omega) hk (by omega)
theorem DW{o ln b:Int}{h:eX}:vS o ln b h=true↔h.aC=o/\h.aK=ln/\h.bin=b:=by
 simp[vS,yw]
theorem Ed{l:List eX}(_hf:fine l)(hr:KW l){h:eX}(hm:h∈l):dD l h.aC h.aK h.bin=h.n:=by
 unfold dD;cases hx:l.find? (vS h.aC h.aK h.bin)with
 |none=>
  have:=List.find?_eq_none.1 hx h hm
  simp[vS]at this
 |some x=>
  have h1:=DW.1 (List.find?_some hx)
  have h2:=zG hx
  have h3:fP x=fP h:=FN h1;have h4:x=h:=by
   obtain⟨i,hi,rfl⟩:=bg h2;obtain⟨j,hj,rfl⟩:=bg hm;rcases Nat.lt_trichotomy i j with h5|rfl|h5
   ·have:=ji.1 hr i j hi hj h5;omega
   ·rfl
   ·have:=ji.1 hr j i hj hi h5;omega
  rw[h4]
theorem Ec{l:List eX}{o ln b:Int}(h:∀x∈l,¬(x.aC=o/\x.aK=ln/\x.bin=b)):dD l o ln b=0:=by
 unfold dD;cases hx:l.find? (vS o ln b)with
 |none=>rfl
 |some x=>exact absurd (DW.1 (List.find?_some hx)) (h x (zG hx))
theorem Ud{l:List eX}(hf:fine l)(hr:KW l)(o ln b:Int):
  (∃h∈l,h.aC=o/\h.aK=ln/\h.bin=b/\dD l o ln b=h.n)\/((∀x∈l,¬(x.aC=o/\x.aK=ln/\x.bin=b))/\dD l o ln b=0):=by
 by_cases h:∃x∈l,x.aC=o/\x.aK=ln/\x.bin=b
 ·obtain⟨x,hx,rfl,rfl,rfl⟩:=h;exact .inl ⟨x,hx,rfl,rfl,rfl,Ed hf hr hx⟩
 ·refine .inr ⟨λx hx he=>h ⟨x,hx,he⟩,Ec λx hx he=>h ⟨x,hx,he⟩⟩
theorem Gn{l:List eX}(hf:fine l)(hr:KW l)(o ln b:Int):0<=dD l o ln b/\dD l o ln b<=200:=by
 rcases Ud hf hr o ln b with⟨h,hm,_,_,_,he⟩|⟨_,he⟩
 ·have:=nH.1 (hf h hm);omega
 ·omega
theorem Ee{l:List eX}(hf:fine l)(hr:KW l){o ln b:Int}(h:dD l o ln b≠0):sJ o ln b/\⟨o,ln,b,dD l o ln b⟩∈l:=by
 rcases Ud hf hr o ln b with⟨h',hm,rfl,rfl,rfl,he⟩|⟨_,he⟩
 ·exact⟨(nH.1 (hf h' hm)).1,by rw[he];exact hm⟩
 ·exact absurd he h
theorem JM{l:List eX}{h x:eX}:x∈jE l h↔(x∈l/\fP x≠fP h)\/(x=h/\h.n≠0):=by
 unfold jE;simp only[jD,jX,dI];by_cases h0:h.n=0
 ·simp only[h0,ite_true,mg,lC,ne_eq,rZ,ql,lC];constructor
  ·rintro(⟨h1,h2⟩|⟨h1,h2⟩)
   ·exact⟨h1,by omega⟩
   ·exact⟨h1,by omega⟩
  ·rintro⟨h1,h2⟩;rcases Int.lt_or_lt_of_ne h2 with h3|h3
   ·exact .inl ⟨h1,h3⟩
   ·exact .inr ⟨h1,h3⟩
 ·simp only[h0,Es,ig,ne_eq,not_false_eq_true,ni];constructor
  ·rintro((⟨h1,h2⟩|h1)|⟨h1,h2⟩)
   ·exact .inl ⟨h1,by omega⟩
   ·exact .inr h1
   ·exact .inl ⟨h1,by omega⟩
  ·rintro(⟨h1,h2⟩|h1)
   ·rcases Int.lt_or_lt_of_ne h2 with h3|h3
    ·exact .inl (.inl ⟨h1,h3⟩)
    ·exact .inr ⟨h1,h3⟩
   ·exact .inl (.inr h1)
theorem jdZ{l:List eX}{h:eX}(hr:KW l):KW (jE l h):=by
 unfold jE KW;rw[kY,kY];refine⟨⟨hr.filter _,?_,?_⟩,hr.filter _,?_⟩
 ·split<;>simp
 ·intro a ha b hb;simp only[jX,dI]at ha
  split at hb
  ·simp at hb
  ·obtain rfl:=ig.1 hb;exact ha.2
 ·intro a ha b hb;simp only[jX,dI]at hb
  rcases jD.1 ha with ha|ha
  ·simp only[jX,dI]at ha
   omega
  ·split at ha
   ·simp at ha
   ·obtain rfl:=ig.1 ha;exact hb.2
theorem VD{l:List eX}{h:eX}(hl:iI l=true)(hk:sJ h.aC h.aK h.bin)(hn:0<=h.n/\h.n<=200):iI (jE l h)=true:=by
 rw[gI]at hl ⊢
 refine⟨λx hx=>?_,jdZ hl.2⟩
 rcases JM.1 hx with⟨h1,_⟩|⟨rfl,h1⟩
 ·exact hl.1 x h1
 ·exact nH.2 ⟨hk,by omega,hn.2⟩
theorem FW{l:List eX}{h:eX}(hl:iI l=true)(hk:sJ h.aC h.aK h.bin)(hn:0<=h.n/\h.n<=200)(o ln b:Int):
  dD (jE l h) o ln b=if h.aC=o/\h.aK=ln/\h.bin=b then h.n else dD l o ln b:=by
 have hw:=VD hl hk hn;rw[gI]at hw hl
 split
 ·rename_i he
  obtain⟨rfl,rfl,rfl⟩:=he;by_cases h0:h.n=0
  ·rw[h0];refine Ec λx hx he=>?_
   rcases JM.1 hx with⟨_,h2⟩|⟨_,h2⟩
   ·exact h2 (FN he)
   ·exact h2 h0
  ·exact Ed hw.1 hw.2 (JM.2 (.inr ⟨rfl,h0⟩))
 ·rename_i he
  rcases Ud hl.1 hl.2 o ln b with⟨x,hx,rfl,rfl,rfl,e⟩|⟨h1,e⟩
  ·rw[e];refine Ed hw.1 hw.2 (JM.2 (.inl ⟨hx,λhp=>?_⟩))
   have:=Zt (nH.1 (hl.1 x hx)).1 hk hp;exact he ⟨this.1.symm,this.2.1.symm,this.2.2.symm⟩
  ·rw[e];refine Ec λx hx hxe=>?_
   rcases JM.1 hx with⟨h2,_⟩|⟨rfl,_⟩
   ·exact h1 x h2 hxe
   ·exact he hxe
theorem Hy{l:List eX}(hl:iI l=true)(o ln:Int):kept l o ln=ny (λb=>dD l o ln b) 6:=by
 have key:∀l:List eX,fine l->KW l->kept l o ln=ny (λb=>dD l o ln b) 6:=by
  intro l;induction l with
  |nil=>intro _ _;simp[kept,dD,ny]
  |cons x l ih=>
   intro hf hr;have hf':fine l:=λh hm=>hf h (aY _ hm)
   have hr':=rG.1 hr;have ih':=ih hf' hr'.2;have hx:=nH.1 (hf x (bW ..));have hcons:∀b,dD (x::l) o ln b=if x.aC=o/\x.aK=ln/\x.bin=b then x.n else dD l o ln b:=by
    intro b;unfold dD;rw[BN]
    by_cases hk:x.aC=o/\x.aK=ln/\x.bin=b
    ·rw[aB hk,DW.2 hk]
    ·rw[au hk,show vS o ln b x=false by rw[<- nI,DW];exact hk]
   by_cases hs:x.aC=o/\x.aK=ln
   ·have h0:dD l o ln x.bin=0:=Ec λy hy he=>by
     have h1:=hr'.1 y hy;rw[FN ⟨hs.1.trans he.1.symm,hs.2.trans he.2.1.symm,he.2.2.symm⟩]at h1
     omega
    have hk1:kept (x::l) o ln=kept l o ln+x.n:=by
     unfold kept;rw[jC (by simp[CP,hs.1,hs.2])]
     simp[Int.add_comm]
    rw[hk1,ih'];refine(FK (f:=λb=>dD l o ln b) (g:=λb=>dD (x::l) o ln b) (i:=x.bin.toNat) (d:=x.n) ?_ ?_ ?_).symm
    ·have:=hx.1.2.2;omega
    ·intro b _ hb;show dD (x::l) o ln b=dD l o ln b;rw[hcons,au (by have:=hx.1.2.2;omega)]
    ·have hb:=hx.1.2.2;show dD (x::l) o ln (x.bin.toNat:Int)=dD l o ln (x.bin.toNat:Int)+x.n;rw[Int.toNat_of_nonneg hb.1,hcons,aB ⟨hs.1,hs.2,rfl⟩,h0];omega
   ·have hk1:kept (x::l) o ln=kept l o ln:=by
     unfold kept;rw[kZ (by simp[CP];exact λh=>λh'=>hs ⟨h,h'⟩)]
    rw[hk1,ih'];refine zN λb _=>?_
    show _=dD (x::l) o ln b;rw[hcons,au (λhe=>hs ⟨he.1,he.2.1⟩)]
 rw[gI]at hl
 exact key l hl.1 hl.2
theorem ZH{l:List eX}{h:eX}(hl:iI l=true)(hk:sJ h.aC h.aK h.bin)(hn:0<=h.n/\h.n<=200)(o ln:Int):
  kept (jE l h) o ln=kept l o ln+if h.aC=o/\h.aK=ln then h.n - dD l h.aC h.aK h.bin else 0:=by
 rw[Hy (VD hl hk hn),Hy hl];by_cases hs:h.aC=o/\h.aK=ln
 ·rw[aB hs];obtain⟨rfl,rfl⟩:=hs;refine FK (i:=h.bin.toNat) (by have:=hk.2.2;omega) (λb _ hb=>?_) ?_
  ·show dD (jE l h) _ _ _=_;rw[FW hl hk hn,au (by have:=hk.2.2;omega)]
  ·show dD (jE l h) _ _ _=_;rw[FW hl hk hn,aB ⟨rfl,rfl,by have:=hk.2.2;omega⟩]
   rw[show((h.bin.toNat:Nat):Int)=h.bin by have:=hk.2.2;omega]
   omega
 ·rw[au hs,je];refine zN λb _=>?_
  show dD (jE l h) _ _ _=_;rw[FW hl hk hn,au (λhe=>hs ⟨he.1,he.2.1⟩)]
theorem wH{l:List eX}(hl:iI l=true)(o ln:Int):0<=kept l o ln/\kept l o ln<=1200:=by
 rw[Hy hl];rw[gI]at hl
 have:=BP (f:=λb=>dD l o ln b) (n:=6) (m:=200) λb _=>Gn hl.1 hl.2 o ln b
 omega
def Uw(a b:Int):Int:=if a<b then -1 else if b<a then 1 else 0
def ord(a b:eX):Int:=
 if Uw a.aC b.aC≠0 then Uw a.aC b.aC else if Uw a.aK b.aK≠0 then Uw a.aK b.aK else Uw a.bin b.bin
theorem NT(a b:Int):(a<b/\Uw a b= -1)\/(b<a/\Uw a b=1)\/(a=b/\Uw a b=0):=by
 unfold Uw;rcases wR a b with h|h|h
 ·exact .inl ⟨h,aB h⟩
 ·exact .inr (.inr ⟨h,by rw[au (by omega),au (by omega)]⟩)
 ·exact .inr (.inl ⟨h,by rw[au (by omega),aB h]⟩)
theorem JD(a b:eX):(ord a b= -1/\(a.aC<b.aC\/a.aC=b.aC/\(a.aK<b.aK\/a.aK=b.aK/\a.bin<b.bin)))\/
  (ord a b=1/\(b.aC<a.aC\/a.aC=b.aC/\(b.aK<a.aK\/a.aK=b.aK/\b.bin<a.bin)))\/(ord a b=0/\a.aC=b.aC/\a.aK=b.aK/\a.bin=b.bin):=by
 unfold ord;rcases NT a.aC b.aC with⟨h1,e1⟩|⟨h1,e1⟩|⟨h1,e1⟩<;>rcases NT a.aK b.aK with⟨h2,e2⟩|⟨h2,e2⟩|⟨h2,e2⟩<;>
  rcases NT a.bin b.bin with⟨h3,e3⟩|⟨h3,e3⟩|⟨h3,e3⟩<;>simp only[e1,e2,e3]<;>simp<;>omega
theorem VI{a b:eX}:ord a b<0↔(a.aC<b.aC\/a.aC=b.aC/\(a.aK<b.aK\/a.aK=b.aK/\a.bin<b.bin)):=by
 rcases JD a b with⟨h,h'⟩|⟨h,h'⟩|⟨h,h'⟩<;>rw[h]<;>omega
theorem IC{a b:eX}:ord a b=0↔(a.aC=b.aC/\a.aK=b.aK/\a.bin=b.bin):=by
 rcases JD a b with⟨h,h'⟩|⟨h,h'⟩|⟨h,h'⟩<;>rw[h]<;>omega
theorem P5{a b:eX}(ha:sJ a.aC a.aK a.bin)(hb:sJ b.aC b.aK b.bin):ord a b<0↔fP a<fP b:=by
 rw[VI];unfold sJ at ha hb
 unfold fP;omega
theorem jeu{a b:eX}(ha:sJ a.aC a.aK a.bin)(hb:sJ b.aC b.aK b.bin):ord a b=0↔fP a=fP b:=by
 rw[IC];unfold sJ at ha hb
 unfold fP;omega
def pos(l:List eX)(h:eX):Nat:=(l.takeWhile λx=>decide (ord x h<0)).length
def Ap(l:List eX)(h:eX):Bool:=decide (pos l h<l.length)&&decide (ord (hold l (pos l h)) h=0)
theorem LY{α:Type}(p:α->Bool):∀(l:List α) (k:Nat),k<=l.length->(∀i (hi:i<l.length),i<k->p l[i]=true)->(∀(hk:k<l.length),p l[k]=false)->(l.takeWhile p).length=k
 |[],k,hk,_,_=>by simp at hk;simp[hk]
 |x::l,0,_,_,h2=>by
  have:=h2 (by simp)
  simp at this
  simp[this]
 |x::l,k+1,hk,h1,h2=>by
  have h0:=h1 0 (by simp) (by omega)
  simp at h0
  rw[yD,h0,aB rfl,bP,LY p l k (by simpa using hk) (λi hi hik=>h1 (i+1) (by simpa using hi) (by omega)) (λhk'=>h2 (by simpa using hk'))]
theorem Ot{α:Type}(p:α->Bool):∀(l:List α),(l.takeWhile p).length<=l.length/\(∀i (hi:i<l.length),i<(l.takeWhile p).length->p l[i]=true)/\∀(hk:(l.takeWhile p).length<l.length),p l[(l.takeWhile p).length]=false
 |[]=>by simp
 |x::l=>by
  obtain⟨h1,h2,h3⟩:=Ot p l;by_cases hx:p x=true
  ·have e:(x::l).takeWhile p=x::l.takeWhile p:=by rw[yD,aB hx]
   rw[e];refine⟨by simpa using h1,λi hi hik=>?_,λhk=>?_⟩
   ·cases i with
    |zero=>simpa using hx
    |succ i=>simpa using h2 i (by simpa using hi) (by simpa using hik)
   ·have:=h3 (by simpa using hk)
    simpa using this
  ·have e:(x::l).takeWhile p=[]:=by rw[yD,au hx]
   rw[e];exact⟨by simp,λi hi hik=>by simp at hik,λhk=>by simpa using hx⟩
theorem pos_eq{l:List eX}{h:eX}{k:Nat}(hk:k<=l.length)(h1:∀i,i<k->ord (hold l i) h<0)(h2:k<l.length->0<=ord (hold l k) h):pos l h=k:=
 LY _ l k hk (λi hi hik=>by have:=h1 i hik;rw[iZ hi]at this;simpa using this) (λhk'=>by have:=h2 hk';rw[iZ hk']at this;simpa using this)
theorem Sz(l:List eX)(h:eX):pos l h<=l.length/\(∀i,i<pos l h->ord (hold l i) h<0)/\(pos l h<l.length->0<=ord (hold l (pos l h)) h):=by
 obtain⟨h1,h2,h3⟩:=Ot (λx=>decide (ord x h<0)) l
 refine⟨h1,λi hi=>?_,λhk=>?_⟩
 ·have:=h2 i (aJ hi h1) hi;rw[iZ (aJ hi h1)];simpa using this
 ·have:=h3 hk;rw[iZ hk];exact Int.not_lt.1 (of_decide_eq_false this)
theorem jm2{l:List eX}(h:iI l=true){i:Nat}(hi:i<l.length):lq (hold l i)=true:=by
 rw[iZ hi];exact(gI.1 h).1 _ (dh hi)
theorem I5{l:List eX}(h:iI l=true){i:Nat}(hi:i<l.length):sJ (hold l i).aC (hold l i).aK (hold l i).bin:=(nH.1 (jm2 h hi)).1
theorem jgP{l:List eX}(h:iI l=true){i:Nat}(hi:i<l.length):1<=(hold l i).n/\(hold l i).n<=200:=(nH.1 (jm2 h hi)).2
theorem jco{l:List eX}(h:iI l=true){i j:Nat}(hij:i<j)(hj:j<l.length):ord (hold l i) (hold l j)<0:=by
 rw[P5 (I5 h (by omega)) (I5 h hj),iZ hj,iZ (show i<l.length by omega)]
 exact ji.1 (gI.1 h).2 i j (by omega) hj hij
theorem Zx{a b c:eX}(h1:ord a b<0)(h2:ord b c<=0):ord a c<0:=by
 rw[VI]at*
 rcases JD b c with⟨h,h'⟩|⟨h,h'⟩|⟨h,h'⟩<;>omega
theorem jfY{l:List eX}(h:iI l=true){x:eX}{i j:Nat}(hij:i<=j)(hj:j<l.length)(hx:ord (hold l j) x<0):ord (hold l i) x<0:=by
 rcases pG hij with h1|rfl
 ·exact Zx (jco h h1 hj) (by omega)
 ·exact hx
theorem zB{l:List eX}{h:eX}:Ap l h=true↔pos l h<l.length/\ord (hold l (pos l h)) h=0:=by
 unfold Ap;simp
theorem RF{l:List eX}(hl:iI l=true){h:eX}(hf:Ap l h=true):dD l h.aC h.aK h.bin=(hold l (pos l h)).n:=by
 obtain⟨h1,h2⟩:=zB.1 hf;obtain⟨e1,e2,e3⟩:=IC.1 h2;obtain⟨g1,g2⟩:=gI.1 hl;rw[<- e1,<- e2,<- e3];exact Ed g1 g2 (by rw[iZ h1];exact dh h1)
theorem QA{l:List eX}(hl:iI l=true){h:eX}(hf:Ap l h=false):dD l h.aC h.aK h.bin=0:=by
 refine Ec λx hx hk=>?_
 obtain⟨i,hi,rfl⟩:=bg hx;have h0:ord (hold l i) h=0:=by rw[iZ hi];exact IC.2 hk
 obtain⟨p1,p2,p3⟩:=Sz l h;have hip:pos l h<=i:=xC λhn=>by have:=p2 i hn;omega
 have hp:pos l h=i:=by
  rcases pG hip with h1|h1
  ·have:=Zx (jco hl h1 hi) (by omega:ord (hold l i) h<=0)
   have:=p3 (by omega)
   omega
  ·exact h1
 have:Ap l h=true:=zB.2 ⟨by omega,by rw[hp];exact h0⟩
 rw[hf]at this
 cases this
theorem filter_lt{l:List eX}(hl:iI l=true){h:eX}(hk:sJ h.aC h.aK h.bin):l.filter (λx=>decide (fP x<fP h))=l.take (pos l h):=by
 obtain⟨p1,p2,p3⟩:=Sz l h;have key:∀i (hi:i<l.length),(fP l[i]<fP h↔i<pos l h):=λi hi=>by
  have hki:=I5 hl hi;rw[iZ hi]at hki
  rw[<- P5 hki hk,<- iZ hi];constructor
  ·intro hlt;exact Nat.lt_of_not_le λhn=>by have:=jfY hl hn hi hlt;have:=p3 (by omega);omega
  ·exact p2 i
 conv=>lhs;rw[<- jW (pos l h) l]
 rw[jH,oN.2,rP.2,jd]
 ·intro x hx;obtain⟨i,hi,rfl⟩:=bg hx;rw[List.getElem_drop];rw[jv]at hi
  simp only[dI];intro hc;have:=(key (pos l h+i) (by omega)).1 hc
  omega
 ·intro x hx;obtain⟨i,hi,rfl⟩:=bg hx;rw[wQ];rw[bC]at hi
  simp only[dI];exact(key i (by omega)).2 (by omega)
theorem Ur{l:List eX}(hl:iI l=true){h:eX}(hk:sJ h.aC h.aK h.bin):
  l.filter (λx=>decide (fP h<fP x))=l.drop (if Ap l h then pos l h+1 else pos l h):=by
 obtain⟨p1,p2,p3⟩:=Sz l h;have key:∀i (hi:i<l.length),(fP h<fP l[i]↔(if Ap l h then pos l h+1 else pos l h)<=i):=λi hi=>by
  have hki:=I5 hl hi;have a1:=P5 hki hk;have a2:=jeu hki hk;rw[<- iZ hi];have e:fP h<fP (hold l i)↔0<ord (hold l i) h:=by omega
  rw[e];constructor
  ·intro hlt;have hge:pos l h<=i:=xC λhn=>by have:=p2 i hn;omega
   split
   ·rename_i hf
    obtain⟨f1,f2⟩:=zB.1 hf;rcases pG hge with h1|h1
    ·omega
    ·rw[<- h1]at hlt;omega
   ·exact hge
  ·intro hge;split at hge
   ·rename_i hf
    obtain⟨f1,f2⟩:=zB.1 hf;have h1:=jco hl (show pos l h<i by omega) hi
    rw[IC]at f2
    rw[VI]at h1
    rcases JD (hold l i) h with⟨h,h'⟩|⟨h,h'⟩|⟨h,h'⟩<;>omega
   ·rename_i hf
    have hp3:=p3 (by omega)
    have hnz:ord (hold l (pos l h)) h≠0:=λh0=>hf (zB.2 ⟨by omega,h0⟩)
    rcases pG hge with h1|h1
    ·have h2:=jco hl h1 hi;rw[VI]at h2
     rcases JD (hold l (pos l h)) h with⟨q,q'⟩|⟨q,q'⟩|⟨q,q'⟩<;>rcases JD (hold l i) h with⟨g,g'⟩|⟨g,g'⟩|⟨g,g'⟩<;>omega
    ·rw[<- h1];omega
 generalize (if Ap l h then pos l h+1 else pos l h)=q at key ⊢
 conv=>lhs;rw[<- jW q l]
 rw[jH,rP.2,oN.2,fJ]
 ·intro x hx;obtain⟨i,hi,rfl⟩:=bg hx;rw[List.getElem_drop];rw[jv]at hi
  simp only[dI];exact(key (q+i) (by omega)).2 (by omega)
 ·intro x hx;obtain⟨i,hi,rfl⟩:=bg hx;rw[wQ];rw[bC]at hi
  simp only[dI];intro hc;have:=(key i (by omega)).1 hc
  omega
theorem jhT{l:List eX}(hl:iI l=true){h:eX}(hk:sJ h.aC h.aK h.bin)(hn:h.n≠0)(hf:Ap l h=false):jE l h=l.take (pos l h)++h::l.drop (pos l h):=by
 unfold jE;rw[filter_lt hl hk,Ur hl hk,hf,au hn];simp
theorem jiF(l:List eX)(h:eX)(n:Int):pos l {h with n:=n}=pos l h:=rfl
theorem jbh(l:List eX)(h:eX)(n:Int):Ap l {h with n:=n}=Ap l h:=rfl
theorem Y9{l:List eX}(hl:iI l=true){h:eX}(hk:sJ h.aC h.aK h.bin)(hn:h.n≠0)(hf:Ap l h=true):jE l h=l.set (pos l h) h:=by
 unfold jE;obtain⟨f1,f2⟩:=zB.1 hf;rw[filter_lt hl hk,Ur hl hk,hf,au hn,vY,aB f1];simp
theorem Za{l:List eX}(hl:iI l=true){h:eX}(hk:sJ h.aC h.aK h.bin)(hn:h.n=0)(hf:Ap l h=true):jE l h=l.eraseIdx (pos l h):=by
 unfold jE;rw[filter_lt hl hk,Ur hl hk,hf,aB hn,nV];simp
theorem jhm{l:List eX}(hl:iI l=true){h:eX}(hf:Ap l h=true):sJ h.aC h.aK h.bin:=by
 obtain⟨f1,f2⟩:=zB.1 hf;obtain⟨e1,e2,e3⟩:=IC.1 f2;rw[<- e1,<- e2,<- e3];exact I5 hl f1
def xU(l:List eX)(h:eX)(k:Nat):Bool:=decide (h.n=0)||(l.take k).any λx=>decide (fP h<=fP x)
def rC(l:List eX)(h:eX)(k:Nat):List eX:=
 (l.take k).filter (λx=>decide (fP x<fP h))++(if xU l h k=true/\h.n≠0 then [h]else [])++(l.take k).filter (λx=>decide (fP h<fP x))
theorem PS{l:List eX}{k:Nat}(hk:k<l.length):l.take (k+1)=l.take k++[hold l k]:=by
 rw[bM hk,iZ hk]
theorem jag{l:List eX}(hr:KW l){k:Nat}(hk:k<l.length):∀x∈l.take k,fP x<fP (hold l k):=by
 intro x hx;obtain⟨i,hi,rfl⟩:=bg hx;rw[bC]at hi
 rw[wQ,iZ hk];exact ji.1 hr i k (by omega) hk (by omega)
theorem UC(l:List eX)(h:eX):rC l h 0=[]/\xU l h 0=decide (h.n=0):=by
 unfold rC xU;simp
theorem jkP{l:List eX}{h:eX}(hb:∀x∈l,fP x<fP h):(l.any λx=>decide (fP h<=fP x))=false:=by
 rw[qo];intro x hx;have:=hb x hx;simp only[dI];omega
theorem UZ{l:List eX}{h:eX}(hb:∀x∈l,fP x<fP h):l.filter (λx=>decide (fP h<fP x))=[]:=by
 rw[rP];intro x hx;have:=hb x hx;simp only[dI];omega
theorem Oo{l:List eX}{h:eX}(hr:KW l){k:Nat}(hk:k<l.length)(hp:fP (hold l k)<fP h):rC l h (k+1)=rC l h k++[hold l k]/\xU l h (k+1)=xU l h k:=by
 have hb:∀x∈l.take k,fP x<fP h:=λx hx=>Int.lt_trans (jag hr hk x hx) hp
 have hd:xU l h (k+1)=xU l h k:=by
  unfold xU;rw[PS hk,List.any_append,jkP hb];simp;omega
 refine⟨?_,hd⟩
 have hd0:xU l h k=decide (h.n=0):=by
  unfold xU;rw[jkP hb,Bool.or_false]
 have hno:¬(xU l h k=true/\h.n≠0):=by
  rw[hd0];simp
 unfold rC;rw[hd,PS hk,jH,jH,UZ hb,au hno,kS,aB (by simpa using hp),kS,au (by simp;omega)]
 simp
theorem Tn{l:List eX}{h:eX}{k:Nat}(hk:k<l.length)(hp:fP h<=fP (hold l k)):xU l h (k+1)=true:=by
 unfold xU;rw[PS hk,List.any_append];simp[hp]
theorem NM{l:List eX}{h:eX}{k:Nat}(hk:k<l.length)(hp:fP h<=fP (hold l k)):
  rC l h (k+1)=(l.take k).filter (λx=>decide (fP x<fP h))++(if h.n≠0 then [h]else [])++((l.take k).filter (λx=>decide (fP h<fP x))++if fP h<fP (hold l k)then [hold l k]else []):=by
 unfold rC;rw[Tn hk hp,PS hk,jH,jH,kS,au (by simp;omega),kS]
 simp
theorem jaN{l:List eX}{h:eX}{k:Nat}(hd:xU l h k=false):h.n≠0/\∀x∈l.take k,fP x<fP h:=by
 unfold xU at hd
 simp only[Bool.or_eq_false_iff,decide_eq_false_iff_not,qo,dI]at hd
 exact⟨hd.1,λx hx=>by have:=hd.2 x hx;omega⟩
theorem jbL{l:List eX}{h:eX}{k:Nat}(hk:k<l.length)(hp:fP (hold l k)=fP h)(hd:xU l h k=false):rC l h (k+1)=rC l h k++[h]:=by
 obtain⟨hn,hb⟩:=jaN hd;rw[NM hk (by omega),UZ hb,aB hn,au (by omega)]
 unfold rC;rw[hd,UZ hb];simp
theorem jbK{l:List eX}{h:eX}(hr:KW l){k:Nat}(hk:k<l.length)(hp:fP (hold l k)=fP h)(hd:xU l h k=true):rC l h (k+1)=rC l h k:=by
 have hb:∀x∈l.take k,fP x<fP h:=λx hx=>by have:=jag hr hk x hx;omega
 rw[NM hk (by omega),UZ hb,au (show ¬fP h<fP (hold l k)by omega)]
 unfold rC;rw[hd,UZ hb];simp
theorem Yz{l:List eX}{h:eX}{k:Nat}(hk:k<l.length)(hp:fP h<fP (hold l k))(hd:xU l h k=false):rC l h (k+1)=(rC l h k++[h])++[hold l k]:=by
 obtain⟨hn,hb⟩:=jaN hd;rw[NM hk (by omega),UZ hb,aB hn,aB hp]
 unfold rC;rw[hd,UZ hb];simp
theorem Yy{l:List eX}{h:eX}{k:Nat}(hk:k<l.length)(hp:fP h<fP (hold l k))(hd:xU l h k=true):rC l h (k+1)=rC l h k++[hold l k]:=by
 rw[NM hk (by omega),aB hp]
 unfold rC;rw[hd];simp
theorem jam{l:List eX}{h:eX}(hd:xU l h l.length=true):jE l h=rC l h l.length:=by
 unfold jE rC;rw[hd,dR];by_cases hn:h.n=0<;>simp[hn]
theorem jan{l:List eX}{h:eX}(hd:xU l h l.length=false):jE l h=rC l h l.length++[h]:=by
 obtain⟨hn,hb⟩:=jaN hd;rw[dR]at hb
 unfold jE rC;rw[hd,dR,UZ hb,au hn];simp
theorem Qy(l:List eX)(h:eX)(k:Nat):(rC l h k).length<=2*l.length+1:=by
 unfold rC;have h1:=kR (λx=>decide (fP x<fP h)) (l.take k)
 have h2:=kR (λx=>decide (fP h<fP x)) (l.take k)
 have h3:=yE k l;have h4:(l.take k).length<=l.length:=by rw[bC];omega
 simp only[aX];split<;>simp<;>omega
end Wh
