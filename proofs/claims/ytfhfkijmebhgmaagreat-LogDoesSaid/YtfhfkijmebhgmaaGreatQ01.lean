/- Texts of the claim, joined. -/
import Derived.WalkKit
import Derived.Test.YtfhfkijmebhgmaaGreatProg
import Derived.SizedLaws
import Derived.ChangeOld
import Derived.Carry
set_option maxHeartbeats 20000000
set_option maxRecDepth 100000
namespace Wh
open Go Go.RowKit Go.Proofs
abbrev jq:=@Addr.add_lit
abbrev Ep:=@Array.all_eq_true_iff_forall_mem
abbrev Eo:=@Array.ext_getElem?
abbrev Bz:=@Array.getD_eq_getD_getElem?
abbrev Qb:=@Array.getElem?_append
abbrev XY:=@Array.getElem?_append_left
abbrev XW:=@Array.getElem?_append_right
abbrev qh:=@Array.getElem?_eq_none
abbrev gX:=@Array.getElem?_eq_some_iff
abbrev XV:=@Array.getElem?_modify
abbrev XU:=@Array.getElem?_setIfInBounds
abbrev XT:=@Array.getElem?_toList
abbrev Bv:=@Array.length_toList
abbrev rW:=@Array.replicate_succ
abbrev rV:=@Array.replicate_zero
abbrev Qa:=@Array.size_replicate
abbrev P9:=@Array.size_setIfInBounds
abbrev zh:=@Below.grown
abbrev LK:=@Below.heap_alloc
abbrev aj:=@Below.refl
abbrev lG:=@Below.size
abbrev dL:=@Bool.and_eq_true
abbrev P8:=@Bool.and_false
abbrev GV:=@Bool.eq_iff_iff
abbrev GU:=@Bool.false_and
abbrev og:=@Bool.false_eq_true
abbrev P7:=@Bool.not_and
abbrev P6:=@Bool.not_eq_false'
abbrev yZ:=@Bool.not_eq_true
abbrev yY:=@Bool.not_eq_true'
abbrev En:=@Bool.not_false
abbrev GR:=@Bool.not_true
abbrev mO:=@Bool.or_eq_true
abbrev rU:=@Bool.true_and
abbrev P5:=@ByteArray.toList_eq
abbrev PZ:=@Classical.not_forall
abbrev XR:=@DataW.weights_mem_each
abbrev aU:=@Hid.out
abbrev GN:=@Int.add_mul
abbrev mM:=@Int.add_zero
abbrev jI:=@Int.le_refl
abbrev GL:=@Int.le_trans
abbrev LJ:=@Int.lt_trichotomy
abbrev XQ:=@Int.mul_le_mul_of_nonneg_right
abbrev PY:=@Int.mul_nonneg
abbrev yX:=@Int.sub_zero
abbrev eH:=@Int.toNat_natCast
abbrev qU:=@IntKind.wrap_i64
abbrev PX:=@IntKind.wrap_u8
abbrev bf:=@IntWalk.i64_in
abbrev LH:=@List.Pairwise.filter
abbrev LG:=@List.Pairwise.imp_of_mem
abbrev PW:=@List.all_append
abbrev LD:=@List.all_cons
abbrev PV:=@List.all_eq_false
abbrev bY:=@List.all_eq_true
abbrev PU:=@List.all_nil
abbrev LC:=@List.any_cons
abbrev Em:=@List.any_eq_false
abbrev uJ:=@List.any_eq_true
abbrev jo:=@List.append_assoc
abbrev mJ:=@List.append_nil
abbrev rQ:=@List.append_toArray
abbrev iL:=@List.cons.inj
abbrev qg:=@List.cons_append
abbrev GK:=@List.countP_append
abbrev XP:=@List.countP_singleton
abbrev GI:=@List.drop_drop
abbrev wO:=@List.drop_eq_getElem_cons
abbrev PS:=@List.drop_eq_nil_of_le
abbrev Lu:=@List.drop_length
abbrev XO:=@List.drop_of_length_le
abbrev XM:=@List.drop_set_of_lt
abbrev lF:=@List.drop_succ_cons
abbrev mG:=@List.drop_zero
abbrev GH:=@List.eq_nil_of_length_eq_zero
abbrev Ls:=@List.eraseIdx_eq_take_drop_succ
abbrev wM:=@List.ext_getElem
abbrev yV:=@List.ext_getElem?
abbrev mF:=@List.filterMap_cons
abbrev XL:=@List.filterMap_cons_some
abbrev mD:=@List.filterMap_nil
abbrev qR:=@List.filter_append
abbrev uI:=@List.filter_cons
abbrev Bq:=@List.filter_cons_of_neg
abbrev uH:=@List.filter_cons_of_pos
abbrev Lr:=@List.filter_eq_nil_iff
abbrev Ej:=@List.filter_eq_self
abbrev PO:=@List.find?_cons
abbrev lD:=@List.flatMap_append
abbrev uG:=@List.flatMap_cons
abbrev Lp:=@List.flatMap_def
abbrev yU:=@List.foldl_append
abbrev jH:=@List.foldl_cons
abbrev mg:=@List.foldl_nil
abbrev jm:=@List.getD_eq_getElem?_getD
abbrev nZ:=@List.getElem?_append_left
abbrev yT:=@List.getElem?_append_right
abbrev PN:=@List.getElem?_cons_succ
abbrev Lm:=@List.getElem?_cons_zero
abbrev rP:=@List.getElem?_drop
abbrev fF:=@List.getElem?_eq_getElem
abbrev Ei:=@List.getElem?_eq_none
abbrev lC:=@List.getElem?_eq_some_iff
abbrev qc:=@List.getElem?_map
abbrev Gz:=@List.getElem?_mapIdx
abbrev Bl:=@List.getElem?_range
abbrev Eh:=@List.getElem?_set
abbrev XK:=@List.getElem?_set_ne
abbrev XJ:=@List.getElem?_set_self
abbrev nI:=@List.getElem?_take
abbrev XI:=@List.getElem?_toArray
abbrev Gy:=@List.getElem?_zipWith
abbrev Ll:=@List.getElem_cons_succ
abbrev XH:=@List.getElem_cons_zero
abbrev PL:=@List.getElem_map
abbrev yS:=@List.getElem_mapIdx
abbrev eF:=@List.getElem_mem
abbrev cZ:=@List.getElem_of_mem
abbrev PK:=@List.getElem_set
abbrev XG:=@List.getElem_set_ne
abbrev Gx:=@List.getElem_set_self
abbrev Lj:=@List.getElem_take
abbrev dK:=@List.length_append
abbrev gQ:=@List.length_cons
abbrev jT:=@List.length_drop
abbrev Gw:=@List.length_eraseIdx
abbrev yR:=@List.length_filter_le
abbrev kF:=@List.length_map
abbrev je:=@List.length_nil
abbrev XF:=@List.length_pos_iff
abbrev pY:=@List.length_set
abbrev Gv:=@List.length_singleton
abbrev dS:=@List.length_take
abbrev PI:=@List.length_take_le
abbrev XE:=@List.length_zipWith
abbrev jl:=@List.map_append
abbrev Ef:=@List.map_congr_left
abbrev dP:=@List.map_cons
abbrev nH:=@List.map_nil
abbrev rO:=@List.map_toArray
abbrev Lh:=@List.map_zipWith
abbrev qQ:=@List.mem_append
abbrev nY:=@List.mem_cons
abbrev fA:=@List.mem_cons_of_mem
abbrev iK:=@List.mem_cons_self
abbrev qP:=@List.mem_filter
abbrev Bj:=@List.mem_flatMap
abbrev Le:=@List.mem_iff_getElem?
abbrev qO:=@List.mem_map
abbrev XD:=@List.mem_of_find?_eq_some
abbrev Ld:=@List.mem_of_getElem?
abbrev PG:=@List.mem_of_mem_drop
abbrev XC:=@List.mem_of_mem_eraseIdx
abbrev Lc:=@List.mem_of_mem_take
abbrev lu:=@List.mem_range
abbrev pX:=@List.mem_singleton
abbrev lq:=@List.nil_append
abbrev Gu:=@List.nodup_cons
abbrev XB:=@List.not_all_eq_any_not
abbrev Bh:=@List.not_mem_nil
abbrev yQ:=@List.pairwise_append
abbrev Gt:=@List.pairwise_cons
abbrev uF:=@List.pairwise_iff_getElem
abbrev PE:=@List.pairwise_lt_range
abbrev Bg:=@List.pairwise_map
abbrev La:=@List.pairwise_singleton
abbrev rM:=@List.push_toArray
abbrev wL:=@List.range_succ
abbrev XA:=@List.replicate_succ'
abbrev iW:=@List.setIfInBounds_toArray
abbrev Bd:=@List.set_append_right
abbrev iJ:=@List.set_cons_succ
abbrev iy:=@List.set_cons_zero
abbrev Xz:=@List.set_eq_take_append_cons_drop
abbrev PD:=@List.set_set
abbrev qN:=@List.size_toArray
abbrev Gs:=@List.sum_append
abbrev kE:=@List.sum_cons
abbrev Pz:=@List.takeWhile_cons
abbrev Ba:=@List.take_append_drop
abbrev KZ:=@List.take_append_of_le_length
abbrev jE:=@List.take_length
abbrev A8:=@List.take_of_length_le
abbrev Xy:=@List.take_set_of_le
abbrev eY:=@List.take_succ_cons
abbrev l9:=@List.take_succ_eq_append_getElem
abbrev yP:=@List.take_take
abbrev eG:=@List.take_zero
abbrev Xx:=@List.zip_eq_zipWith
abbrev nG:=@Nat.add_mul
abbrev lZ:=@Nat.add_zero
abbrev Xw:=@Nat.div_lt_iff_lt_mul
abbrev KY:=@Nat.eq_zero_or_pos
abbrev lY:=@Nat.le_of_eq
abbrev nD:=@Nat.le_of_lt
abbrev Gq:=@Nat.le_of_not_lt
abbrev aA:=@Nat.le_refl
abbrev bJ:=@Nat.le_trans
abbrev aZ:=@Nat.lt_of_lt_of_le
abbrev Ee:=@Nat.lt_or_eq_of_le
abbrev Ed:=@Nat.lt_or_ge
abbrev dB:=@Nat.lt_succ_iff_lt_or_eq
abbrev KX:=@Nat.min_def
abbrev pW:=@Nat.min_eq_left
abbrev Gp:=@Nat.mul_le_mul
abbrev AZ:=@Nat.mul_le_mul_right
abbrev rJ:=@Nat.mul_one
abbrev Py:=@Nat.mul_pos
abbrev Px:=@Nat.one_mul
abbrev AY:=@Nat.sub_self
abbrev iV:=@Nat.zero_add
abbrev aT:=@Nat.zero_le
abbrev Pv:=@Nat.zero_mul
abbrev Ec:=@Ne.symm
abbrev AX:=@Oper.wp_mono
abbrev uD:=@Option.getD_some
abbrev Xv:=@Option.map_eq_some_iff
abbrev pq:=@Option.map_some
abbrev gB:=@Option.some.inj
abbrev AV:=@Option.some.injEq
abbrev Ea:=@Prod.mk.injEq
abbrev nX:=@Result.andThen_ok
abbrev Gn:=@RowKit.Hid.out
abbrev lW:=@Sem.run_bind
abbrev nC:=@Sem.run_pure
abbrev KW:=@World.cell?_alloc_lt
abbrev Pq:=@World.grownBy.refl
abbrev D9:=@World.grownBy_alloc
abbrev Xu:=@World.ownsRow.alloc
abbrev yO:=@World.ownsRow.lt
abbrev fP:=@World.size_alloc
abbrev D8:=@and_assoc
abbrev uz:=@and_false
abbrev nV:=@and_true
abbrev Po:=@beq_eq_false_iff_ne
abbrev jS:=@bodyPost_ret
abbrev AU:=@callsIn_of_wp
abbrev kD:=@callsIn_wide
abbrev fO:=@congrArg
abbrev iU:=@decide_eq_false
abbrev lg:=@decide_eq_true
abbrev dR:=@decide_eq_true_eq
abbrev AQ:=@false_iff
abbrev AP:=@false_or
abbrev wK:=@getD_set_ne
abbrev yN:=@if_false
abbrev ah:=@if_neg
abbrev ak:=@if_pos
abbrev wJ:=@if_true
abbrev KU:=@ite_false
abbrev Gm:=@leaves_cons
abbrev wI:=@mem_ready
abbrev KT:=@not_true_eq_false
abbrev uy:=@of_decide_eq_true
abbrev o9:=@or_false
abbrev Gl:=@results_none
abbrev uq:=@rounds_succ
abbrev Gj:=@run_firstCells_some
abbrev KR:=@run_storeCells_at
abbrev AO:=@run_underlying
abbrev Pn:=@setRow_other
abbrev bP:=@trivial
abbrev nU:=@true_and
abbrev yM:=@true_iff
abbrev D7:=@wpIn_wide
abbrev gy:=@wpList_nil
abbrev lV:=@wpList_plain
abbrev Pm:=@wpList_store_row
abbrev KQ:=@wp_loop_rounds
abbrev Pj:=@wp_region_any
end Wh
namespace Wh
structure Bin where
 front:Bool
 room:Int
 low:Int
 high:Int
structure Plan where
 aH:List Bin
 sizes:List Int
structure Line where
 good:Int
 want:Int
 got:Int
 back:Int
structure Order where
 kind:Int
 lines:List Line
structure Hold where
 order:Int
 line:Int
 bin:Int
 n:Int
structure Move where
 good:Int
 src:Int
 dst:Int
 n:Int
structure State where
 on:List (List Int)
 orders:List Order
 holds:List Hold
 moves:List Move
 inn:List Int
 out:List Int
 fixed:List Int
structure Total where
 on:Int
 held:Int
 back:Int
 got:Int
structure qo where
 kind:Int
 a:Int
 b:Int
 c:Int
 n:Int
 lines:List Line
instance:DecidableEq Line:=fun x y=>
 if h:x.good=y.good∧x.want=y.want∧x.got=y.got∧x.back=y.back then
  isTrue (by cases x;cases y;simp at h;simp [h])
 else isFalse (by rintro rfl;simp at h)
instance:DecidableEq Hold:=fun x y=>
 if h:x.order=y.order∧x.line=y.line∧x.bin=y.bin∧x.n=y.n then
  isTrue (by cases x;cases y;simp at h;simp [h])
 else isFalse (by rintro rfl;simp at h)
instance:DecidableEq Move:=fun x y=>
 if h:x.good=y.good∧x.src=y.src∧x.dst=y.dst∧x.n=y.n then
  isTrue (by cases x;cases y;simp at h;simp [h])
 else isFalse (by rintro rfl;simp at h)
instance:DecidableEq Order:=fun x y=>
 if h:x.kind=y.kind∧x.lines=y.lines then
  isTrue (by cases x;cases y;simp at h;simp [h])
 else isFalse (by rintro rfl;simp at h)
instance:DecidableEq State:=fun x y=>
 if h:x.on=y.on∧x.orders=y.orders∧x.holds=y.holds∧x.moves=y.moves∧x.inn=y.inn∧x.out=y.out∧x.fixed=y.fixed then
  isTrue (by cases x;cases y;simp at h;simp [h])
 else isFalse (by rintro rfl;simp at h)
instance:DecidableEq Total:=fun x y=>
 if h:x.on=y.on∧x.held=y.held∧x.back=y.back∧x.got=y.got then
  isTrue (by cases x;cases y;simp at h;simp [h])
 else isFalse (by rintro rfl;simp at h)
def jru:Bin:=⟨false,0,0,0⟩
def dLine:Line:=⟨0,0,0,0⟩
def yC:Order:=⟨0,[]⟩
def Sm:Hold:=⟨0,0,0,0⟩
def Iu:Move:=⟨0,0,0,0⟩
def dJ:State:=⟨[],[],[],[],[],[],[]⟩
def aC (l:List Int) (i:Nat):Int:=l.getD i 0
def rowAt (l:List (List Int)) (i:Nat):List Int:=l.getD i []
def fK (l:List Bin) (i:Nat):Bin:=l.getD i jru
def bH (l:List Line) (i:Nat):Line:=l.getD i dLine
def ay (l:List Order) (i:Nat):Order:=l.getD i yC
def aB (l:List Move) (i:Nat):Move:=l.getD i Iu
def within (n lo hi:Int):Bool:=decide (lo≤n)&&decide (n≤hi)
def rH (b:Bin):Bool:=within b.room 0 1000&&within b.high 0 200&&within b.low 0 b.high
def vg (s:Int):Bool:=within s 1 9
def bK (p:Plan):Int:=
 if !(within p.aH.length 1 6&&within p.sizes.length 1 3) then 2
 else if !(p.aH.all rH&&p.sizes.all vg) then 3 else 0
def Plan.bin (p:Plan) (b:Nat):Bin:=fK p.aH b
def kinds (p:Plan) (f:Bool):List Nat:=(List.range p.aH.length).filter fun b=>(p.bin b).front==f
def kZ (p:Plan) (f:Bool) (k:Nat):List Nat:=(List.range k).filter fun b=>(p.bin b).front==f
def oq (l:List Nat):List Int:=l.map fun n:Nat=>(n:Int)
def way (p:Plan):List Nat:=kinds p true++kinds p false
def fD (p:Plan) (b:Int):Bool:=within b 0 (p.aH.length - 1)
def bU (p:Plan) (g:Int):Bool:=within g 0 (p.sizes.length - 1)
def rowOk (p:Plan) (row:List Int):Bool:=decide (row.length=p.sizes.length)&&row.all (within · 0 200)
def zX (p:Plan) (on:List (List Int)):Bool:=decide (on.length=p.aH.length)&&on.all (rowOk p)
def bW (p:Plan) (on:List (List Int)):Int:=
 if bK p≠0 then bK p else if zX p on then 0 else 1
def jw (p:Plan) (on:List (List Int)) (b g:Int):Int:=
 if bW p on≠0 then bW p on else if fD p b&&bU p g then 0 else 3
def cell (on:List (List Int)) (b g:Nat):Int:=aC (rowAt on b) g
def setCell (on:List (List Int)) (b g:Nat) (n:Int):List (List Int):=on.set b ((rowAt on b).set g n)
def sumTo (f:Nat→Int):Nat→Int
 |0=>0
 |k+1=>sumTo f k+f k
def EZ (p:Plan) (on:List (List Int)) (b:Nat):Int:=sumTo (fun g=>cell on b g*aC p.sizes g) p.sizes.length
def sumOf (on:List (List Int)) (g:Nat):Int:=sumTo (fun b=>cell on b g) on.length
def jer (p:Plan) (on:List (List Int)) (g:Int):Int:=if jw p on 0 g=0 then sumOf on g.toNat else 0
def put (p:Plan) (on:List (List Int)) (b g n:Int):List (List Int)×Int:=
 if jw p on b g≠0 then ([],jw p on b g)
 else if !(within n (-(cell on b.toNat g.toNat)) (200 - cell on b.toNat g.toNat)) then ([],3)
 else (setCell on b.toNat g.toNat (cell on b.toNat g.toNat+n),0)
def eX (h:Hold):Bool:=within h.order 0 3&&within h.line 0 2&&within h.bin 0 5&&within h.n 1 200
def place (h:Hold):Int:=(h.order*3+h.line)*6+h.bin
def hold (l:List Hold) (k:Nat):Hold:=l.getD k Sm
def bQ (l:List Hold):Bool:=
 (List.range l.length).all fun k=>eX (hold l k)&&(decide (k=0)||decide (place (hold l (k - 1))<place (hold l k)))
def fB (l:List Hold):Int:=if bQ l then 0 else 1
def qV (o ln:Int) (h:Hold):Bool:=decide (h.order=o)&&decide (h.line=ln)
def sameKey (o ln b:Int) (h:Hold):Bool:=decide (h.order=o)&&decide (h.line=ln)&&decide (h.bin=b)
def aF (l:List Hold) (o ln b:Int):Int:=match l.find? (sameKey o ln b) with|some h=>h.n|none=>0
def dA (l:List Hold) (h:Hold):List Hold:=
 l.filter (fun x=>decide (place x<place h))++(if h.n=0 then [] else [h])++l.filter (fun x=>decide (place h<place x))
def add (l:List Hold) (h:Hold):List Hold×Int:=
 if !(bQ l) then ([],1) else if !(eX h) then ([],1)
 else if 200<aF l h.order h.line h.bin+h.n then ([],3)
 else (dA l {h with n:=aF l h.order h.line h.bin+h.n},0)
def drop (l:List Hold) (o ln b:Int):List Hold×Int×Int:=
 if !(bQ l) then ([],0,1) else if aF l o ln b=0 then ([],0,4)
 else (dA l ⟨o,ln,b,0⟩,aF l o ln b,0)
def kept (l:List Hold) (o ln:Int):Int:=((l.filter (qV o ln)).map (·.n)).sum
def F7 (l:List Hold) (o ln:Int):Int×Int:=if !(bQ l) then (0,1) else (kept l o ln,0)
def State.order (s:State) (o:Nat):Order:=ay s.orders o
def State.line (s:State) (o k:Nat):Line:=bH (s.order o).lines k
def begin (p:Plan):State:=
 let z:=List.replicate p.sizes.length 0
 ⟨List.replicate p.aH.length z,[],[],[],z,z,z⟩
def mZ (s:State) (b g:Int) (h:Hold):Int:=if h.bin=b∧(s.line h.order.toNat h.line.toNat).good=g then h.n else 0
def qB (b g:Int) (x:Move):Int:=if x.src=b∧x.good=g then x.n else 0
def toN (b g:Int) (x:Move):Int:=if x.dst=b∧x.good=g then x.n else 0
def iO (s:State) (b g:Int):Int:=(s.holds.map (mZ s b g)).sum
def fJ (l:List Move) (b g:Int):Int:=(l.map (qB b g)).sum
def bound (s:State) (b g:Int):Int:=iO s b g+fJ s.moves b g
def EN (l:List Move) (b g:Int):Int:=(l.map (toN b g)).sum
def coming (s:State) (b g:Int):Int:=EN s.moves b g
def jY (p:Plan) (x:Line):Bool:=bU p x.good&&within x.want 1 200&&within x.got 0 x.want&&within x.back 0 x.want
def mY (p:Plan) (o:Order):Bool:=within o.kind 0 2&&o.lines.all (jY p)
def oO (p:Plan) (s:State) (h:Hold):Bool:=
 decide (h.order<s.orders.length)&&decide (h.line<(s.order h.order.toNat).lines.length)&&decide (h.bin<p.aH.length)
def jR (p:Plan) (x:Move):Bool:=bU p x.good&&fD p x.src&&fD p x.dst&&decide (x.src≠x.dst)&&within x.n 1 200
def kX (p:Plan) (l:List Int) (lo:Int):Bool:=decide (l.length=p.sizes.length)&&l.all (within · lo 1048576)
def BX (s:State):Bool:=decide (s.orders.length≤4)&&decide (s.moves.length≤8)&&s.orders.all (fun o=>within o.lines.length 1 3)
def formed (p:Plan) (s:State):Bool:=
 s.orders.all (mY p)&&bQ s.holds&&s.holds.all (oO p s)&&s.moves.all (jR p)&&kX p s.inn 0&&kX p s.out 0&&kX p s.fixed (-1048576)
def ni (p:Plan) (s:State) (g:Nat):Bool:=
 decide (sumOf s.on g=aC s.inn g - aC s.out g+aC s.fixed g)&&(List.range p.aH.length).all fun b=>decide (bound s b g≤cell s.on b g)
def iH (o:Order):Bool:=o.lines.all fun x=>decide (x.got=x.want)
def fM (s:State) (o:Nat) (k:Nat):Bool:=
 let x:=s.line o k
 let n:=kept s.holds o k
 decide (x.got+x.back+n=if (s.order o).kind=0 then 0 else x.want)&&!(decide ((s.order o).kind=2)&&decide (0<n))
def mP (s:State) (o:Nat):Bool:=
 !(decide ((s.order o).kind=1)&&iH (s.order o))&&(List.range (s.order o).lines.length).all (fM s o)
def summed (p:Plan) (s:State):Bool:=
 (List.range p.sizes.length).all (ni p s)&&(List.range s.orders.length).all (mP s)
def checkState (p:Plan) (s:State):Int:=
 if bW p s.on≠0 then bW p s.on
 else if !(BX s) then 2 else if !(formed p s) then 1 else if !(summed p s) then 7 else 0
def fC (s:State) (b g:Int):Int:=cell s.on b.toNat g.toNat - bound s b g
def free (p:Plan) (s:State) (b:Int):Int:=
 (p.bin b.toNat).room - sumTo (fun g=>(cell s.on b.toNat g+coming s b g)*aC p.sizes g) p.sizes.length
def State.fG (s:State) (o k:Nat) (x:Line):State:=
 {s with orders:=s.orders.set o {s.order o with lines:=(s.order o).lines.set k x}}
def kC (s:State) (o k:Nat) (b:Int) (m:Int):State:=
 ({s with holds:=dA s.holds ⟨o,k,b,aF s.holds o k b+m⟩}:State).fG o k {s.line o k with back:=(s.line o k).back - m}
def kJ (o k:Nat) (but:Int):List Nat→State→Int→State×Int
 |[],s,n=>(s,n)
 |b::r,s,n=>
  let m:=min n (fC s b (s.line o k).good)
  if (b:Int)=but∨m<1 then kJ o k but r s n else kJ o k but r (kC s o k b m) (n - m)
def ji (p:Plan) (s:State) (o k:Nat) (n but:Int):State×Int:=kJ o k but (way p) s n
def take (p:Plan) (s:State) (o k n but:Int):State×Int×Int:=
 if checkState p s≠0 then (dJ,0,checkState p s)
 else if !(within o 0 (s.orders.length - 1)) then (dJ,0,3)
 else if !(within k 0 ((s.order o.toNat).lines.length - 1))||!(within n 0 200)||!(decide (but= -1)||fD p but) then (dJ,0,3)
 else if (s.order o.toNat).kind≠1 then (dJ,0,6)
 else if (s.line o.toNat k.toNat).back<n then (dJ,0,3)
 else ((ji p s o.toNat k.toNat n but).1,(ji p s o.toNat k.toNat n but).2,0)
def receive (p:Plan) (s:State) (b g n:Int):State×Int:=
 if checkState p s≠0 then (dJ,checkState p s)
 else if !(fD p b&&bU p g&&within n 1 200) then (dJ,3)
 else if free p s b<n*aC p.sizes g.toNat then (dJ,5)
 else if 200<cell s.on b.toNat g.toNat+coming s b g+n∨1048576<aC s.inn g.toNat+n then (dJ,2)
 else ({s with on:=setCell s.on b.toNat g.toNat (cell s.on b.toNat g.toNat+n),inn:=s.inn.set g.toNat (aC s.inn g.toNat+n)},0)
def enter (p:Plan) (s:State) (l:List Line):State×Int:=
 if checkState p s≠0 then (dJ,checkState p s)
 else if 4≤s.orders.length∨!(within l.length 1 3) then (dJ,2)
 else if !(l.all fun x=>bU p x.good&&within x.want 1 200) then (dJ,3)
 else if !(l.all fun x=>decide (x.got=0)&&decide (x.back=0)) then (dJ,1)
 else ({s with orders:=s.orders++[⟨0,l⟩]},0)
def freed (o:Order):Order:=if o.kind=0 then ⟨1,o.lines.map fun x=>{x with back:=x.want}⟩ else o
def IY (p:Plan) (s:State) (o k:Nat):State:=(ji p s o k (s.line o k).back (-1)).1
def Aj (p:Plan) (o:Nat):Nat→State→State
 |0,s=>s
 |k+1,s=>IY p (Aj p o k s) o k
def xR (p:Plan) (s:State) (o:Nat):State:=if (s.order o).kind=1 then Aj p o (s.order o).lines.length s else s
def dH (p:Plan):Nat→State→State
 |0,s=>s
 |o+1,s=>xR p (dH p o s) o
def uN (p:Plan) (s:State):State:=dH p s.orders.length {s with orders:=s.orders.map freed}
def release (p:Plan) (s:State):State×Int:=
 if checkState p s≠0 then (dJ,checkState p s) else (uN p s,0)
def nO (s:State) (o:Nat):State:=
 {s with holds:=s.holds.filter (fun h=>decide (h.order≠o)),
      orders:=s.orders.set o ⟨2,(s.order o).lines.map fun x=>{x with back:=x.want - x.got}⟩}
def cancel (p:Plan) (s:State) (o:Int):State×Int:=
 if checkState p s≠0 then (dJ,checkState p s)
 else if !(within o 0 (s.orders.length - 1)) then (dJ,4)
 else if (s.order o.toNat).kind=2 then (dJ,6)
 else (nO s o.toNat,0)
def close (s:State) (o:Nat):State:=if iH (s.order o) then {s with orders:=s.orders.set o {s.order o with kind:=2}} else s
def picked (s:State) (o k b:Nat) (held n:Int):State:=
 let x:=s.line o k
 ({s with on:=setCell s.on b x.good.toNat (cell s.on b x.good.toNat - n),out:=s.out.set x.good.toNat (aC s.out x.good.toNat+n),
      holds:=dA s.holds ⟨o,k,b,0⟩}:State).fG o k {x with got:=x.got+n,back:=x.back+held - n}
def qx (p:Plan) (s:State) (o k b:Nat) (n:Int):State:=
 let held:=aF s.holds o k b
 close (ji p (picked s o k b held n) o k (held - n) b).1 o
def pick (p:Plan) (s:State) (o k b n:Int):State×Int:=
 if checkState p s≠0 then (dJ,checkState p s)
 else if aF s.holds o k b=0 then (dJ,4)
 else if !(within n 0 (aF s.holds o k b)) then (dJ,3)
 else if 1048576<aC s.out (s.line o.toNat k.toNat).good.toNat+n then (dJ,2)
 else (qx p s o.toNat k.toNat b.toNat n,0)
def zC (p:Plan) (s:State) (b g f:Nat):Int:=
 min (min ((p.bin b).high - cell s.on b g - coming s b g) (fC s f g)) ((free p s b).tdiv (aC p.sizes g))
def zT (p:Plan) (s:State) (b g f:Nat):State:=
 if 8≤s.moves.length then s else if 0<zC p s b g f then {s with moves:=s.moves++[⟨g,f,b,zC p s b g f⟩]} else s
def jW (p:Plan) (b:Nat) (s:State) (g:Nat):State:=
 if cell s.on b g+coming s b g<(p.bin b).low then (kinds p false).foldl (fun t f=>zT p t b g f) s else s
def Io (p:Plan) (s:State):State:=(kinds p true).foldl (fun t b=>(List.range p.sizes.length).foldl (jW p b) t) s
def fill (p:Plan) (s:State):State×Int:=
 if checkState p s≠0 then (dJ,checkState p s) else (Io p s,0)
def qH (s:State) (k:Nat) (n:Int):State:=
 let x:=aB s.moves k
 let on1:=setCell s.on x.src.toNat x.good.toNat (cell s.on x.src.toNat x.good.toNat - n)
 {s with on:=setCell on1 x.dst.toNat x.good.toNat (cell on1 x.dst.toNat x.good.toNat+n),moves:=s.moves.eraseIdx k}
def moved (p:Plan) (s:State) (k n:Int):State×Int:=
 if checkState p s≠0 then (dJ,checkState p s)
 else if !(within k 0 (s.moves.length - 1)) then (dJ,4)
 else if !(within n 0 (aB s.moves k.toNat).n) then (dJ,3)
 else if 200<cell s.on (aB s.moves k.toNat).dst.toNat (aB s.moves k.toNat).good.toNat+n then (dJ,2)
 else (qH s k.toNat n,0)
def NR:Plan:=⟨[⟨false,100,0,0⟩,⟨true,30,4,8⟩,⟨false,60,0,0⟩],[2,3]⟩
def idxOf {α:Type} (p:α→Bool) (l:List α):Int:=if l.any p then (l.findIdx p:Int) else -1
theorem ED {α:Type} {p:α→Bool} {l:List α} {k:Nat} (hk:k<l.length) (h:p l[k]=true) (hn:∀ j (hj:j<k),p (l[j]'(by omega))=false):(k:Int)=idxOf p l:=by
 unfold idxOf;rw [ak (uJ.2 ⟨l[k],eF hk,h⟩),(List.findIdx_eq hk).2 ⟨h,hn⟩]
theorem yj {α:Type} {p:α→Bool} {l:List α} (hn:∀ j (hj:j<l.length),p l[j]=false):(-1:Int)=idxOf p l:=by
 unfold idxOf;rw [ah];rw [uJ];rintro ⟨x,hx,h⟩;obtain ⟨j,hj,rfl⟩:=cZ hx;rw [hn j hj] at h
 exact absurd h (by decide)
theorem AB {α:Type} (p:α→Bool) (l:List α):decide (0≤idxOf p l)=l.any p:=by
 unfold idxOf;cases h:l.any p
 ·simp
 ·simp
def UK (f:Nat→Int):Nat→Int
 |0=>f 0
 |k+1=>min (UK f k) (f (k+1))
def UL (f:Nat→Int):Nat→Int
 |0=>f 0
 |k+1=>max (UL f k) (f (k+1))
theorem Hr {f:Nat→Int} {lo:Int}:∀ {k:Nat},lo≤UK f k↔∀ j,j≤k→lo≤f j
 |0=>⟨fun h j hj=>by obtain rfl:j=0:=by omega
              exact h,fun h=>h 0 (aA _)⟩
 |k+1=>by
  have ih:=@Hr f lo k;rw [UK,Int.le_min];constructor
  ·rintro ⟨h1,h2⟩ j hj;by_cases he:j=k+1
   ·subst he;exact h2
   ·exact ih.1 h1 j (by omega)
  ·exact fun h=>⟨ih.2 fun j hj=>h j (by omega),h _ (aA _)⟩
theorem Ho {f:Nat→Int} {hi:Int}:∀ {k:Nat},UL f k≤hi↔∀ j,j≤k→f j≤hi
 |0=>⟨fun h j hj=>by obtain rfl:j=0:=by omega
              exact h,fun h=>h 0 (aA _)⟩
 |k+1=>by
  have ih:=@Ho f hi k;rw [UL,Int.max_le];constructor
  ·rintro ⟨h1,h2⟩ j hj;by_cases he:j=k+1
   ·subst he;exact h2
   ·exact ih.1 h1 j (by omega)
  ·exact fun h=>⟨ih.2 fun j hj=>h j (by omega),h _ (aA _)⟩
def lowest (l:List Int):Int:=UK (aC l) (l.length - 1)
def greatest (l:List Int):Int:=UL (aC l) (l.length - 1)
theorem Ht (p:Plan) (f:Bool):(kinds p f).Pairwise (·<·):=
 LH _ PE
theorem Dq (p:Plan) (f:Bool):kZ p f p.aH.length=kinds p f:=rfl
theorem wu {p:Plan} {f:Bool} {k:Nat} (h:(fK p.aH k).front=f):kZ p f (k+1)=kZ p f k++[k]:=by
 unfold kZ Plan.bin;rw [wL,qR];simp [h]
theorem x9 {p:Plan} {f:Bool} {k:Nat} (h:(fK p.aH k).front≠f):kZ p f (k+1)=kZ p f k:=by
 unfold kZ Plan.bin;rw [wL,qR];simp [h]
theorem sH (p:Plan) (f:Bool) (k:Nat):(kZ p f k).length≤k:=by
 unfold kZ;exact bJ (yR _ _) (by simp)
theorem sD (l:List Nat):(oq l).length=l.length:=by simp [oq]
theorem NZ (l m:List Nat):oq (l++m)=oq l++oq m:=by simp [oq]
theorem tu {p:Plan} {f:Bool} {b:Nat}:b∈kinds p f↔b<p.aH.length∧(p.bin b).front=f:=by
 simp [kinds]
theorem Ws (p:Plan):(kinds p true).length+(kinds p false).length=p.aH.length:=by
 have h:∀ l:List Nat,(l.filter fun b=>(p.bin b).front==true).length+(l.filter fun b=>(p.bin b).front==false).length=l.length:=by
  intro l;induction l with
  |nil=>rfl
  |cons x l ih=>cases hx:(p.bin x).front<;>simp [hx] at ih ⊢<;>omega
 rw [kinds,kinds,h,List.length_range]
theorem Qg (p:Plan):(way p).length=p.aH.length:=by
 rw [way,dK,Ws]
theorem jcC {p:Plan} {b:Nat}:b∈way p↔b<p.aH.length:=by
 rw [way,qQ,tu,tu];cases (p.bin b).front<;>simp
theorem Vz (p:Plan):(way p).Pairwise fun a b=>a≠b∧((p.bin b).front=true→(p.bin a).front=true)∧((p.bin a).front=(p.bin b).front→a<b):=by
 rw [way,yQ];refine ⟨?_,?_,?_⟩
 ·refine LG ?_ (Ht p true)
  intro a b ha hb h;rw [tu] at ha hb
  exact ⟨by omega,fun _=>ha.2,fun _=>h⟩
 ·refine LG ?_ (Ht p false)
  intro a b ha hb h;rw [tu] at ha hb
  exact ⟨by omega,fun h'=>absurd h' (by rw [hb.2];decide),fun _=>h⟩
 ·intro a ha b hb;rw [tu] at ha hb
  refine ⟨?_,fun h'=>absurd h' (by rw [hb.2];decide),fun h'=>absurd h' (by rw [ha.2,hb.2];decide)⟩
  rintro rfl;rw [ha.2] at hb
  exact absurd hb.2 (by decide)
theorem sumTo_congr {f g:Nat→Int} {n:Nat} (h:∀ k,k<n→f k=g k):sumTo f n=sumTo g n:=by
 induction n with
 |zero=>rfl
 |succ n ih=>rw [sumTo,sumTo,ih (fun k hk=>h k (by omega)),h n (by omega)]
theorem vP {f g:Nat→Int} {n i:Nat} {d:Int} (hi:i<n) (h:∀ k,k<n→k≠i→g k=f k) (hd:g i=f i+d):sumTo g n=sumTo f n+d:=by
 induction n with
 |zero=>omega
 |succ n ih=>
  rw [sumTo,sumTo];rcases dB.1 hi with hlt|rfl
  ·rw [ih hlt (fun k hk hne=>h k (by omega) hne),h n (by omega) (by omega)]
   omega
  ·rw [sumTo_congr (fun k hk=>h k (by omega) (by omega)),hd]
   omega
theorem sZ {f:Nat→Int} {n:Nat} {m:Int} (h:∀ k,k<n→0≤f k∧f k≤m):0≤sumTo f n∧sumTo f n≤n*m:=by
 induction n with
 |zero=>simp [sumTo]
 |succ n ih=>
  have h1:=ih (fun k hk=>h k (by omega))
  have h2:=h n (by omega)
  have h3:((n+1:Nat):Int)*m=n*m+m:=by rw [Int.natCast_add,GN];simp
  rw [sumTo,h3];omega
theorem qW {l:List Int} {i:Nat} (h:i<l.length):aC l i=l[i]:=by simp [aC,h]
theorem oh {l:List (List Int)} {i:Nat} (h:i<l.length):rowAt l i=l[i]:=by simp [rowAt,h]
theorem iZ {l:List Line} {i:Nat} (h:i<l.length):bH l i=l[i]:=by simp [bH,h]
theorem iM {l:List Move} {i:Nat} (h:i<l.length):aB l i=l[i]:=by simp [aB,h]
theorem kM {l:List Order} {i:Nat} (h:i<l.length):ay l i=l[i]:=by simp [ay,h]
theorem AA {l:List Int} {i j:Nat} {n:Int} (h:i<l.length):aC (l.set i n) j=if j=i then n else aC l j:=by
 unfold aC;simp only [jm]
 by_cases hj:j=i
 ·subst hj;rw [ak rfl,XJ h]
  rfl
 ·rw [ah hj,XK (Ec hj)]
theorem rowAt_set {l:List (List Int)} {i j:Nat} {r:List Int} (h:i<l.length):rowAt (l.set i r) j=if j=i then r else rowAt l j:=by
 unfold rowAt;simp only [jm]
 by_cases hj:j=i
 ·subst hj;rw [ak rfl,XJ h]
  rfl
 ·rw [ah hj,XK (Ec hj)]
theorem Z4 {on:List (List Int)} {b g b' g':Nat} {n:Int} (hb:b<on.length) (hg:g<(rowAt on b).length):
  cell (setCell on b g n) b' g'=if b'=b∧g'=g then n else cell on b' g':=by
 unfold cell setCell;rw [rowAt_set hb];by_cases h1:b'=b
 ·subst h1;rw [ak rfl,AA hg];simp only [nU]
 ·rw [ah h1,ah (fun h=>h1 h.1)]
theorem iY {on:List (List Int)} {b g:Nat} {n:Int}:(setCell on b g n).length=on.length:=by simp [setCell]
theorem kK {on:List (List Int)} {b g i:Nat} {n:Int}:(rowAt (setCell on b g n) i).length=(rowAt on i).length:=by
 unfold setCell;by_cases hb:b<on.length
 ·rw [rowAt_set hb];split
  ·rename_i h;subst h;simp
  ·rfl
 ·rw [List.set_eq_of_length_le (by omega)]
theorem within_iff {n lo hi:Int}:within n lo hi=true↔lo≤n∧n≤hi:=by simp [within]
theorem gY {n lo hi:Int}:within n lo hi=false↔n<lo∨hi<n:=by
 have:=@within_iff n lo hi;cases h:within n lo hi<;>simp [h] at this ⊢<;>omega
theorem oU {p:Plan} {b:Int}:fD p b=true↔0≤b∧b<p.aH.length:=by rw [fD,within_iff];omega
theorem lM {p:Plan} {g:Int}:bU p g=true↔0≤g∧g<p.sizes.length:=by rw [bU,within_iff];omega
theorem zl {p:Plan} {on:List (List Int)}:zX p on=true↔
  on.length=p.aH.length∧∀ b,b<on.length→(rowAt on b).length=p.sizes.length∧∀ g,g<p.sizes.length→0≤cell on b g∧cell on b g≤200:=by
 simp only [zX,dL,dR,bY,rowOk];constructor
 ·rintro ⟨h1,h2⟩;refine ⟨h1,fun b hb=>?_⟩
  obtain ⟨h3,h4⟩:=h2 on[b] (eF hb);unfold cell;rw [oh hb];refine ⟨h3,fun g hg=>?_⟩
  have h5:=h4 on[b][g] (eF (by omega))
  rw [within_iff] at h5
  rw [qW (by omega)]
  exact h5
 ·rintro ⟨h1,h2⟩;refine ⟨h1,fun row hr=>?_⟩
  obtain ⟨b,hb,rfl⟩:=cZ hr;obtain ⟨h3,h4⟩:=h2 b hb;unfold cell at h4
  rw [oh hb] at h3 h4
  refine ⟨h3,fun x hx=>?_⟩
  obtain ⟨g,hg,rfl⟩:=cZ hx;have h5:=h4 g (by omega)
  rw [qW hg] at h5
  rw [within_iff];exact h5
theorem dM {p:Plan} {on:List (List Int)}:bW p on=0↔bK p=0∧zX p on=true:=by
 unfold bW;by_cases h:bK p=0
 ·simp [h]
 ·simp [h]
theorem FZ {p:Plan} {on:List (List Int)} {b g:Int}:jw p on b g=0↔bW p on=0∧fD p b=true∧bU p g=true:=by
 unfold jw;by_cases h:bW p on=0
 ·simp only [h,ne_eq,KT,KU,nU,dL];split<;>simp_all
 ·simp [h]
theorem qm {p:Plan}:bK p=0↔(1≤p.aH.length∧p.aH.length≤6)∧(1≤p.sizes.length∧p.sizes.length≤3)∧(∀ b∈p.aH,rH b=true)∧∀ x∈p.sizes,vg x=true:=by
 unfold bK;by_cases h1:(within p.aH.length 1 6&&within p.sizes.length 1 3)=true
 ·simp only [h1,GR,og,KU];simp only [dL,within_iff] at h1
  by_cases h2:(p.aH.all rH&&p.sizes.all vg)=true
  ·simp only [h2,GR,og,KU,yM];simp only [dL,bY] at h2
   exact ⟨by omega,by omega,h2.1,h2.2⟩
  ·simp only [yZ] at h2
   simp only [h2,En,ite_true];constructor
   ·intro h;omega
   ·rintro ⟨_,_,h3,h4⟩;simp [bY.2 h3,bY.2 h4] at h2
 ·simp only [yZ] at h1
  simp only [h1,En,ite_true];constructor
  ·intro h;omega
  ·rintro ⟨h3,h4,_⟩;have:(within p.aH.length 1 6&&within p.sizes.length 1 3)=true:=by
    simp only [dL,within_iff];omega
   rw [this] at h1
   exact absurd h1 (by decide)
theorem CS {l:List Bin} {i:Nat} (h:i<l.length):fK l i=l[i]:=by simp [fK,h]
theorem yK {p:Plan} (h:within p.aH.length 1 6=false∨within p.sizes.length 1 3=false):bK p=2:=by
 unfold bK;rcases h with h|h<;>simp [h]
theorem D6 {p:Plan} (h1:within p.aH.length 1 6=true) (h2:within p.sizes.length 1 3=true) {k:Nat} (hk:k<p.aH.length) (h:rH (fK p.aH k)=false):bK p=3:=by
 unfold bK;rw [h1,h2];have:(p.aH.all rH)=false:=by
  rw [PV];exact ⟨p.aH[k],eF hk,by rw [CS hk] at h;rw [h];decide⟩
 simp [this]
theorem CQ {p:Plan} (h1:within p.aH.length 1 6=true) (h2:within p.sizes.length 1 3=true) {k:Nat} (hk:k<p.sizes.length) (h:vg (aC p.sizes k)=false):bK p=3:=by
 unfold bK;rw [h1,h2];have:(p.sizes.all vg)=false:=by
  rw [PV];exact ⟨p.sizes[k],eF hk,by rw [qW hk] at h;rw [h];decide⟩
 simp [this]
theorem MV {p:Plan} (h1:within p.aH.length 1 6=true) (h2:within p.sizes.length 1 3=true) (h3:∀ k,k<p.aH.length→rH (fK p.aH k)=true) (h4:∀ k,k<p.sizes.length→vg (aC p.sizes k)=true):bK p=0:=by
 rw [within_iff] at h1 h2
 rw [qm];refine ⟨by omega,by omega,fun b hb=>?_,fun x hx=>?_⟩
 ·obtain ⟨i,hi,rfl⟩:=cZ hb;have:=h3 i hi;rwa [CS hi] at this
 ·obtain ⟨i,hi,rfl⟩:=cZ hx;have:=h4 i hi;rwa [qW hi] at this
theorem OB (b:Bin):(within b.room 0 1000=false∧rH b=false)∨(within b.room 0 1000=true∧within b.high 0 200=false∧rH b=false)∨
  (within b.room 0 1000=true∧within b.high 0 200=true∧within b.low 0 b.high=false∧rH b=false)∨(within b.room 0 1000=true∧within b.high 0 200=true∧within b.low 0 b.high=true∧rH b=true):=by
 unfold rH;cases within b.room 0 1000<;>cases within b.high 0 200<;>cases within b.low 0 b.high<;>simp
theorem jc4 (p:Plan):(p.aH.any fun b=>!rH b)= !(p.aH.all rH):=by
 rw [XB]
theorem Ue {p:Plan} (h1:within p.aH.length 1 6=true) (h2:within p.sizes.length 1 3=true) (h:(p.aH.any fun b=>!rH b)=true):bK p=3:=by
 unfold bK;rw [jc4,yY] at h
 rw [h1,h2,h];simp
theorem NP {p:Plan} (h1:within p.aH.length 1 6=true) (h2:within p.sizes.length 1 3=true) (h:lowest p.sizes<1):bK p=3:=by
 have h2':=within_iff.1 h2;by_cases hex:∃ k,k<p.sizes.length∧vg (aC p.sizes k)=false
 ·obtain ⟨k,hk,hk'⟩:=hex;exact CQ h1 h2 hk hk'
 ·exfalso
  have hall:∀ k,k<p.sizes.length→1≤aC p.sizes k:=fun k hk=>by
   by_cases hs:vg (aC p.sizes k)=true
   ·unfold vg at hs;rw [within_iff] at hs;exact hs.1
   ·exact absurd ⟨k,hk,by simpa using hs⟩ hex
  have:=(Hr (f:=aC p.sizes) (lo:=1) (k:=p.sizes.length - 1)).2 fun j hj=>hall j (by omega)
  unfold lowest at h
  omega
theorem KL {p:Plan} (h1:within p.aH.length 1 6=true) (h2:within p.sizes.length 1 3=true) (h:9<greatest p.sizes):bK p=3:=by
 have h2':=within_iff.1 h2;by_cases hex:∃ k,k<p.sizes.length∧vg (aC p.sizes k)=false
 ·obtain ⟨k,hk,hk'⟩:=hex;exact CQ h1 h2 hk hk'
 ·exfalso
  have hall:∀ k,k<p.sizes.length→aC p.sizes k≤9:=fun k hk=>by
   by_cases hs:vg (aC p.sizes k)=true
   ·unfold vg at hs;rw [within_iff] at hs;exact hs.2
   ·exact absurd ⟨k,hk,by simpa using hs⟩ hex
  have:=(Ho (f:=aC p.sizes) (hi:=9) (k:=p.sizes.length - 1)).2 fun j hj=>hall j (by omega)
  unfold greatest at h
  omega
theorem SE {p:Plan} (h1:within p.aH.length 1 6=true) (h2:within p.sizes.length 1 3=true) (h:(p.aH.any fun b=>!rH b)=false) (h3:1≤lowest p.sizes) (h4:greatest p.sizes≤9):bK p=0:=by
 have h2':=within_iff.1 h2;rw [jc4,P6] at h
 refine MV h1 h2 (fun k hk=>?_) fun k hk=>?_
 ·rw [CS hk];exact bY.1 h _ (eF hk)
 ·unfold vg;rw [within_iff];exact ⟨(Hr.1 h3) k (by omega),(Ho.1 h4) k (by omega)⟩
theorem jeb (b:Bin):(within b.room 0 1000=false∧rH b=false)∨(within b.room 0 1000=true∧200<b.high∧rH b=false)∨
  (within b.room 0 1000=true∧b.high≤200∧within b.low 0 b.high=false∧rH b=false)∨(within b.room 0 1000=true∧b.high≤200∧within b.low 0 b.high=true∧rH b=true):=by
 rcases OB b with ⟨h1,h2⟩|⟨h1,h2,h3⟩|⟨h1,h2,h3,h4⟩|⟨h1,h2,h3,h4⟩
 ·exact .inl ⟨h1,h2⟩
 ·rw [gY] at h2
  by_cases hh:200<b.high
  ·exact .inr (.inl ⟨h1,hh,h3⟩)
  ·exact .inr (.inr (.inl ⟨h1,by omega,by rw [gY];omega,h3⟩))
 ·rw [within_iff] at h2
  exact .inr (.inr (.inl ⟨h1,h2.2,h3,h4⟩))
 ·rw [within_iff] at h2
  exact .inr (.inr (.inr ⟨h1,h2.2,h3,h4⟩))
theorem jdh {p:Plan} (row:List Int) (hn:0<p.sizes.length):(row.length≠p.sizes.length∧rowOk p row=false)∨(row.length=p.sizes.length∧lowest row<0∧rowOk p row=false)∨
  (row.length=p.sizes.length∧0≤lowest row∧200<greatest row∧rowOk p row=false)∨(row.length=p.sizes.length∧0≤lowest row∧greatest row≤200∧rowOk p row=true):=by
 by_cases h1:row.length=p.sizes.length
 ·have key:rowOk p row=true↔0≤lowest row∧greatest row≤200:=by
   unfold rowOk lowest greatest;simp only [h1,decide_true,rU,bY];rw [Hr,Ho];constructor
   ·intro h;exact ⟨fun j hj=>by rw [qW (by omega)];exact (within_iff.1 (h _ (eF _))).1,fun j hj=>by rw [qW (by omega)];exact (within_iff.1 (h _ (eF _))).2⟩
   ·rintro ⟨h2,h3⟩ x hx;obtain ⟨j,hj,rfl⟩:=cZ hx;rw [within_iff];have:=h2 j (by omega)
    have:=h3 j (by omega)
    rw [qW hj] at*
    omega
  by_cases h2:lowest row<0
  ·exact .inr (.inl ⟨h1,h2,by rw [← yZ,key];omega⟩)
  ·by_cases h3:200<greatest row
   ·exact .inr (.inr (.inl ⟨h1,by omega,h3,by rw [← yZ,key];omega⟩))
   ·exact .inr (.inr (.inr ⟨h1,by omega,by omega,key.2 ⟨by omega,by omega⟩⟩))
 ·exact .inl ⟨h1,by unfold rowOk;simp [h1]⟩
theorem jaH {p:Plan} {row:List Int} {j:Nat} (hj:j<row.length) (h:within (aC row j) 0 200=false):rowOk p row=false:=by
 unfold rowOk;rw [Bool.and_eq_false_iff];right
 rw [PV];exact ⟨row[j],eF hj,by rw [qW hj] at h;rw [h];decide⟩
theorem Uy {p:Plan} {row:List Int} (hl:row.length=p.sizes.length) (h:∀ j,j<row.length→within (aC row j) 0 200=true):rowOk p row=true:=by
 unfold rowOk;rw [hl,lg rfl,rU,bY];intro x hx;obtain ⟨j,hj,rfl⟩:=cZ hx;have:=h j hj;rwa [qW hj] at this
theorem KN (p:Plan) (on:List (List Int)):(on.any fun r=>!rowOk p r)= !(on.all (rowOk p)):=by
 rw [XB]
theorem F9 {p:Plan} {on:List (List Int)} (h:bK p≠0):bW p on=bK p:=by
 unfold bW;rw [ak h]
theorem IE {p:Plan} {on:List (List Int)} (h:bK p=0) (hl:on.length≠p.aH.length):bW p on=1:=by
 unfold bW zX;simp [h,hl]
theorem IG {p:Plan} {on:List (List Int)} (h:bK p=0) (hb:(on.any fun r=>!rowOk p r)=true):bW p on=1:=by
 rw [KN,yY] at hb
 unfold bW zX;simp [h,hb]
theorem Gf {p:Plan} {on:List (List Int)} (h:bK p=0) (hl:on.length=p.aH.length) (hb:(on.any fun r=>!rowOk p r)=false):bW p on=0:=by
 rw [KN,P6] at hb
 unfold bW zX;simp [h,hl,hb]
theorem IC {p:Plan} {on:List (List Int)} (h:bK p=0) {k:Nat} (hk:k<on.length) (hb:rowOk p (rowAt on k)=false):bW p on=1:=by
 refine IG h ?_
 rw [uJ];exact ⟨on[k],eF hk,by rw [oh hk] at hb;rw [hb];rfl⟩
theorem II {p:Plan} {on:List (List Int)} (h:bK p=0) (hl:on.length=p.aH.length) (hb:∀ k,k<on.length→rowOk p (rowAt on k)=true):bW p on=0:=by
 refine Gf h hl ?_
 rw [KN,P6,bY];intro r hr;obtain ⟨k,hk,rfl⟩:=cZ hr;have:=hb k hk;rwa [oh hk] at this
theorem xX {p:Plan} {on:List (List Int)} (h:bW p on=0) {b g:Nat} (hb:b<on.length) (hg:g<p.sizes.length):0≤cell on b g∧cell on b g≤200:=
 ((zl.1 (dM.1 h).2).2 b hb).2 g hg
theorem IZ {p:Plan} {on:List (List Int)} (h:bW p on=0) {b:Nat} (hb:b<on.length):(rowAt on b).length=p.sizes.length:=
 ((zl.1 (dM.1 h).2).2 b hb).1
theorem I4 {p:Plan} {on:List (List Int)} (h:bW p on=0):on.length=p.aH.length:=(zl.1 (dM.1 h).2).1
theorem pR {p:Plan} (h:bK p=0) {g:Nat} (hg:g<p.sizes.length):1≤aC p.sizes g∧aC p.sizes g≤9:=by
 have h1:=(qm.1 h).2.2.2 p.sizes[g] (eF hg);unfold vg at h1
 rw [within_iff] at h1
 rw [qW hg];exact h1
theorem Aq {p:Plan} (h:bK p=0) {b:Nat} (hb:b<p.aH.length):(0≤(fK p.aH b).room∧(fK p.aH b).room≤1000)∧(0≤(fK p.aH b).low∧(fK p.aH b).low≤(fK p.aH b).high)∧(0≤(fK p.aH b).high∧(fK p.aH b).high≤200):=by
 have h1:=(qm.1 h).2.2.1 p.aH[b] (eF hb);rw [← CS hb] at h1
 simp only [rH,dL,within_iff] at h1
 exact ⟨h1.1.1,h1.2,h1.1.2⟩
theorem jC {p:Plan} (h:bK p=0):1≤p.aH.length∧p.aH.length≤6∧1≤p.sizes.length∧p.sizes.length≤3:=by
 have:=qm.1 h;omega
theorem Qz {a b:Int} (ha:0≤a∧a≤200) (hb:1≤b∧b≤9):0≤a*b∧a*b≤1800:=by
 refine ⟨PY ha.1 (by omega),?_⟩
 exact GL (XQ ha.2 (by omega)) (by omega)
theorem Qh {p:Plan} {on:List (List Int)} (h:bW p on=0) {b:Nat} (hb:b<on.length) {k:Nat} (hk:k≤p.sizes.length):
  0≤sumTo (fun g=>cell on b g*aC p.sizes g) k∧sumTo (fun g=>cell on b g*aC p.sizes g) k≤k*1800:=
 sZ fun _ hj=>Qz (xX h hb (by omega)) (pR (dM.1 h).1 (by omega))
theorem Um {p:Plan} {on:List (List Int)} (h:bW p on=0) {g:Nat} (hg:g<p.sizes.length) {k:Nat} (hk:k≤on.length):
  0≤sumTo (fun b=>cell on b g) k∧sumTo (fun b=>cell on b g) k≤k*200:=
 sZ fun _ hj=>xX h (by omega) hg
theorem E8 {p:Plan} {on:List (List Int)} {b g:Nat} {n:Int} (h:zX p on=true) (hn:0≤n∧n≤200) (hb:b<p.aH.length) (hg:g<p.sizes.length):
  zX p (setCell on b g n)=true:=by
 rw [zl] at h ⊢
 obtain ⟨h1,h2⟩:=h;rw [iY];refine ⟨h1,fun i hi=>?_⟩
 rw [kK];refine ⟨(h2 i hi).1,fun j hj=>?_⟩
 rw [Z4 (by omega) (by rw [(h2 b (by omega)).1];omega)]
 split
 ·exact hn
 ·exact (h2 i hi).2 j hj
end Wh
