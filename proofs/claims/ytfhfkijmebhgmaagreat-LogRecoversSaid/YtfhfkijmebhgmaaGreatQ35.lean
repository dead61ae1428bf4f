/- Texts of the claim, joined. -/
import Derived.Laws.MakeOwn
import Derived.StillTailTactics
import Derived.Still
import Derived.BigQuiet
import Derived.Deep.RegionLaw
import Derived.Laws.IdiomStrings
import Derived.Laws.Strings2
import Derived.Laws.PanicsMore
import Derived.Test.YtfhfkijmebhgmaaGreatQ34
set_option maxHeartbeats 20000000
set_option maxRecDepth 100000
namespace Wh
open Go Go.RowKit Go.Shelf Go.Proofs Tryz
attribute [local go_sem] aT jW jm kC
theorem Own.BI{α:Type}{enc:α->List Value}{size:Nat}{e:TypeId}{w:World}{aO g:Nat}{cs:Array Value}{l:List α}(hb:aO<=g)(hg:w.heap[g]?=some (.cells cs e))(hc:cs.toList=l.flatMap enc)
  (hk:∀x,(enc x).length=size) (hl:l.length<=1000000):Own enc size e w aO (.slice (some ⟨g,0,none⟩) l.length l.length) l:=by
 refine⟨by rw[kL enc size hk],.inr ⟨g,l.length,cs,rfl,hb,hg,au _,by unfold maxLen;omega,?_,?_⟩⟩
 ·rw[<- nG,hc,kL enc size hk]
 ·rw[hc,<- kL enc size hk,fG]
def Xo:aJ:=⟨[[9,0],[3,0],[0,6]],[⟨1,[⟨0,6,1,0⟩,⟨1,9,0,3⟩]⟩,⟨0,[⟨0,4,0,0⟩]⟩],[⟨0,0,0,2⟩,⟨0,0,1,3⟩,⟨0,1,2,6⟩],[⟨0,0,1,5⟩],[13,6],[1,0],[0,0]⟩
def RX(n:Nat):SV:=
 ⟨.slice (some ⟨n+4,0,none⟩) 3 3,.slice (some ⟨n+7,0,none⟩) 2 2,.slice (some ⟨n+8,0,none⟩) 3 3,.slice (some ⟨n+9,0,none⟩) 1 1,.slice (some ⟨n+10,0,none⟩) 2 2,.slice (some ⟨n+11,0,none⟩) 2 2,.slice (some ⟨n+12,0,none⟩) 2 2,[.slice (some ⟨n+1,0,none⟩) 2 2,.slice (some ⟨n+2,0,none⟩) 2 2,.slice (some ⟨n+3,0,none⟩) 2 2],[.slice (some ⟨n+5,0,none⟩) 2 2,.slice (some ⟨n+6,0,none⟩) 1 1]⟩
def jjJ(n:Nat):List Obj:=[
 .cells (RX n).cells.toArray 31,.cells #[.int .i64 9,.int .i64 0] 3,.cells #[.int .i64 3,.int .i64 0] 3,.cells #[.int .i64 0,.int .i64 6] 3,.cells #[.slice (some ⟨n+1,0,none⟩) 2 2,.slice (some ⟨n+2,0,none⟩) 2 2,.slice (some ⟨n+3,0,none⟩) 2 2] 23,.cells #[.int .i64 0,.int .i64 6,.int .i64 1,.int .i64 0,.int .i64 1,.int .i64 9,.int .i64 0,.int .i64 3] 44,.cells #[.int .i64 0,.int .i64 4,.int .i64 0,.int .i64 0] 44,.cells #[.int .i64 1,.slice (some ⟨n+5,0,none⟩) 2 2,.int .i64 0,.slice (some ⟨n+6,0,none⟩) 1 1] 42,.cells #[.int .i64 0,.int .i64 0,.int .i64 0,.int .i64 2,.int .i64 0,.int .i64 0,.int .i64 1,.int .i64 3,.int .i64 0,.int .i64 1,.int .i64 2,.int .i64 6] 46,.cells #[.int .i64 0,.int .i64 0,.int .i64 1,.int .i64 5] 48,.cells #[.int .i64 13,.int .i64 6] 3,.cells #[.int .i64 1,.int .i64 0] 3,.cells #[.int .i64 0,.int .i64 0] 3]
def lay(w:World)(os:List Obj):World:={w with heap:=w.heap++os.toArray}
theorem jfX(w:World)(os:List Obj)(o:Obj):(lay w os).alloc o=lay w (os++[o]):=by
 unfold lay World.alloc;simp
theorem jkC(w:World):lay w []=w:=by unfold lay;simp
theorem jfV(w:World)(os:List Obj):lay w os=os.foldl World.alloc w:=by
 suffices h:∀(os ps:List Obj),lay w (ps++os)=os.foldl World.alloc (lay w ps)by
  have:=h os [];rwa [jkC]at this
 intro os;induction os with
 |nil=>intro ps;simp
 |cons o os ih=>
  intro ps;have:=ih (ps++[o]);rw[fB,jfX,<- this];simp
theorem jfW(w:World)(os:List Obj):Below w.heap.size w (lay w os):=kW w w.drawn os.toArray
theorem jm4(w:World)(os:List Obj)(i:Nat):(lay w os).heap[w.heap.size+i]?=os[i]?:=by
 unfold lay;rw[xY (by omega)]
 simp
theorem jlD(w:World):dK (lay w (jjJ w.heap.size)) w.heap.size (RX w.heap.size) Xo:=by
 have H:=jm4 w (jjJ w.heap.size);refine⟨Own.BI (by omega) (H 4) rfl (λ_=>rfl) (by simp[RX]),rfl,λb hb=>?_,Own.BI (by omega) (H 7) rfl (λ_=>rfl) (by simp[zI,Xo,RX]),rfl,λo ho=>?_,Own.BI (by omega) (H 8) rfl (λ_=>rfl) (by decide),Own.BI (by omega) (H 9) rfl (λ_=>rfl) (by decide),Own.BI (by omega) (H 10) rfl (λ_=>rfl) (by decide),Own.BI (by omega) (H 11) rfl (λ_=>rfl) (by decide),Own.BI (by omega) (H 12) rfl (λ_=>rfl) (by decide),?_,?_⟩
 ·match b,hb with
  |0,_=>exact Own.BI (l:=([9,0]:List Int)) (by omega) (H 1) rfl (λ_=>rfl) (by decide)
  |1,_=>exact Own.BI (l:=([3,0]:List Int)) (by omega) (H 2) rfl (λ_=>rfl) (by decide)
  |2,_=>exact Own.BI (l:=([0,6]:List Int)) (by omega) (H 3) rfl (λ_=>rfl) (by decide)
  |b+3,hb=>simp[Xo]at hb;omega
 ·match o,ho with
  |0,_=>exact Own.BI (l:=([⟨0,6,1,0⟩,⟨1,9,0,3⟩]:List Line)) (by omega) (H 5) rfl (λ_=>rfl) (by decide)
  |1,_=>exact Own.BI (l:=([⟨0,4,0,0⟩]:List Line)) (by omega) (H 6) rfl (λ_=>rfl) (by decide)
  |o+2,ho=>simp[Xo]at ho;omega
 ·unfold D6 RX;simp[Value.ownBlock]
 ·unfold D6 RX;simp[Value.ownBlock]
theorem jqs(w:World):Calls prog 42 #[] w λe w'=>∃V,e=.returned V.val/\dK w' w.heap.size V Xo/\Below w.heap.size w w':=by
 go_enter func42,ntmps42
 go_wp2_with fail;have h1:=jlD w;have h2:=jfW w (jjJ w.heap.size);rw[jfV]at h1 h2
 refine fD (v:=(RX w.heap.size).val) ?_ rfl ⟨RX w.heap.size,rfl,h1,h2⟩
 simp[results,results42,go_sem,SV.val,RX]
def small(s:aJ):Bool:=decide (s.on.length<=1000)&&s.on.all (λr=>decide (r.length<=1000))&&decide (s.ak.length<=1000)&&s.ak.all (λo=>decide (o.aH.length<=1000))&&decide (s.aA.length<=1000)&&decide (s.aF.length<=1000)&&decide (s.gY.length<=1000)&&decide (s.O.length<=1000)&&decide (s.bg.length<=1000)
theorem dK.view0{w:World}{aO:Nat}{V:SV}{s:aJ}(h:dK w aO V s)(hs:small s=true):lK w w.heap.size V.val s:=by
 unfold small at hs
 simp only[bG,bD,aX]at hs
 obtain⟨⟨⟨⟨⟨⟨⟨⟨s1,s2⟩,s3⟩,s4⟩,s5⟩,s6⟩,s7⟩,s8⟩,s9⟩:=hs;obtain⟨A,c,hv,_,hA⟩:=h.on.sl (by rw[h.rlen];omega)
 obtain⟨A1,c1,hv1,_,hA1⟩:=h.ak.sl (by rw[uJ h.llen];omega)
 refine⟨_,_,_,_,_,_,_,rfl,⟨A,c,V.rows,by rw[hv,h.rlen],by omega,h.rlen,?_,λi x hi=>?_⟩,⟨A1,c1,V.aH,by rw[hv1,uJ h.llen],by omega,h.llen,?_,λi x hi=>?_⟩,h.aA.sl (by omega),h.aF.sl (by omega),h.gY.sl (by omega),h.O.sl (by omega),h.bg.sl (by omega)⟩
 ·have:V.rows.flatMap (λu=>[u])=V.rows:=by simp
  rw[this]at hA
  exact hA
 ·have hil:i<s.on.length:=(eF.1 hi).1
  have hx:fO s.on i=x:=by rw[xZ hil];exact(eF.1 hi).2
  have:=s2 x (tC hi);exact⟨_,h.jhf hil,by rw[<- hx];exact(h.row i hil).sl (by rw[hx];omega)⟩
 ·have e:(s.ak.zip V.aH).flatMap (λx=>[Value.int .i64 x.1.dW,x.2])=(zI s.ak V.aH).flatMap Nl:=by
   unfold zI Nl;rw[Cj,wR,wR,wQ,wQ]
  rw[e];exact hA1
 ·have hil:i<s.ak.length:=(eF.1 hi).1
  have hx:s.aC i=x:=by unfold aJ.aC;rw[uy hil];exact(eF.1 hi).2
  have:=s4 x (tC hi);exact⟨_,h.je7 hil,by rw[<- hx];exact(h.aG i hil).sl (by rw[hx];omega)⟩
end Wh
namespace Wh
open Go Go.RowKit Go.Shelf Go.Proofs Tryz
attribute [local go_sem] aT jW jm kC
theorem jdg{p:dA}{s:aJ}(h:o9 p s):small s=true:=by
 have hc:=h.counts;have h4:=h.qH;have h8:=h.vJ;have h72:=su h.aA;unfold small;simp only[bG,bD,aX];refine⟨⟨⟨⟨⟨⟨⟨⟨?_,λr hr=>?_⟩,?_⟩,λo ho=>?_⟩,?_⟩,?_⟩,?_⟩,?_⟩,?_⟩
 ·rw[h.tY];omega
 ·obtain⟨i,hi,rfl⟩:=aV hr;have h1:=h.rowLen (b:=i) (by rw[<- h.tY];exact hi)
  rw[xZ hi]at h1
  omega
 ·omega
 ·obtain⟨i,hi,rfl⟩:=aV ho;have h1:=h.tN hi;unfold aJ.aC at h1
  rw[uy hi]at h1
  omega
 ·omega
 ·omega
 ·rw[h.gY.1];omega
 ·rw[h.O.1];omega
 ·rw[h.bg.1];omega
theorem OB{p:dA}{s:aJ}(h:aQ p s=0):small s=true:=jdg (kM.1 h).1
end Wh
namespace Wh
open Go Go.RowKit Go.Shelf Go.Proofs Tryz
attribute [local go_sem] aT jW jm kC
theorem At.tail{w:World}{B g o:Nat}{xs ys:List Value}(h:At w B (some ⟨g,o,none⟩) (xs++ys)):At w B (some ⟨g,o+xs.length,none⟩) ys:=by
 intro hn;obtain⟨h1,h2,h3⟩:=h (by simp[hn])
 refine⟨⟨g,_,rfl⟩,h2,λj v hj=>?_⟩
 have:=h3 (xs.length+j) v (by rw[jX (by omega),Nat.add_sub_cancel_left];exact hj)
 rw[<- Ci]at this
 exact this
end Wh
namespace Wh
open Go Go.RowKit Go.Shelf Go.Proofs Tryz
attribute [local go_sem] aT jW jm kC
theorem QN(p:dA)(s:aJ)(x:yK):small (act p s x).1=true:=by
 by_cases h:(act p s x).2=0
 ·exact OB (jcN h).2.check
 ·have:(act p s x).1=jD:=by
   have f:∀ {r:aJ×Int},(r.2≠0->r.1=jD)->r.2≠0->r.1=jD:=λh h2=>h h2
   revert h
   unfold act;split
   ·unfold rF;repeat' split
    all_goals(intro h;first|rfl|exact absurd rfl h)
   split
   ·unfold enter;repeat' split
    all_goals(intro h;first|rfl|exact absurd rfl h)
   split
   ·unfold zq;repeat' split
    all_goals(intro h;first|rfl|exact absurd rfl h)
   split
   ·unfold zJ;repeat' split
    all_goals(intro h;first|rfl|exact absurd rfl h)
   split
   ·unfold pick;repeat' split
    all_goals(intro h;first|rfl|exact absurd rfl h)
   split
   ·unfold fill;repeat' split
    all_goals(intro h;first|rfl|exact absurd rfl h)
   split
   ·unfold CW;repeat' split
    all_goals(intro h;first|rfl|exact absurd rfl h)
   split
   ·unfold count;repeat' split
    all_goals(intro h;first|rfl|exact absurd rfl h)
   intro _;rfl
  rw[this];decide
end Wh
namespace Wh
open Go Go.RowKit Go.Shelf Go.Proofs Tryz
attribute [local go_sem] aT jW jm kC
theorem Ih{P:Program}(w:World){α:Type}{enc:α->List Value}{ops:Array Oper}{rest:List Oper}{o:Oper}{a:Act}{Q:Exit->Act->World->Prop}(hgd:o.guard=none)(s x:Operand)(t e:TypeId)
  (ho:o.op=.call {callee:=.builtin .append,args:=#[s,x],argTypes:=#[t,t]}) (aO:Nat) (z:Value) (size bytes:Nat) (ht:P.underlying t=some (.slice e)) (hi:Elem P e z size bytes)
  (hzs:z.cells.size=size) (hsz:0<size) (v:Value) (l:List α) (y:α) (hs:a.eval s=v) (lC:Own enc size e w aO v l)
  (ad:Addr) (c:Nat) (hx:a.eval x=.slice (some ad) 1 c) (hl:(enc y).length=size) (hnews:∀j u,(enc y)[j]?=some u->w.cell? (ad.add j)=some u) (h1:∀u∈enc y,u.oneCell'=true)
  (hn:(l.length+1)*bytes<=140737488355328) (hn2:l.length+1<=140737488355328) (rV:aO<=w.heap.size)
  (h:∀v' w',Own enc size e w' aO v' (l++[y])->w.grownBy w' v.ownBlock->(v'.ownBlock=v.ownBlock\/v'.ownBlock=some w.heap.size)->Below aO w w'->wpList P ops Q rest (a.put o.dst v') w'):
  wpList P ops Q (o::rest) a w:=by
 obtain⟨i,hi,hz,G8,hbytes⟩:=hi;refine wpList_append_own_at w hgd s x t ho aO e i z size bytes ht hi hz G8 hbytes hzs hsz v l.length _ hs lC ad 1 c (enc y) hx (by rw[hl,Es]) hnews h1 (by unfold maxLen;omega) hn rV ?_
 intro v' w' h2 h3 _ h5;refine h v' w' ?_ h3 h5 ((aj _ _).grown h3 rV λk hk=>(nK lC k hk).1)
 unfold Own;rw[aZ,gy];simpa using h2
def Qd(n:Nat):List Value:=[.int .u8 n]
theorem one_byte(n:Nat):∀u∈Qd n,u.oneCell'=true:=by simp[Qd,Value.oneCell']
theorem infoByte:Elem prog 5 (.int .u8 0) 1 1:=Iu (by kernel_rfl)
def oq(n:Int):Nat:=(IntKind.u8.wrap n).toNat
theorem Uk(n:Int):IntKind.u8.wrap n=(oq n:Int):=by
 unfold oq;rw[AL];omega
theorem BL{n:Int}(h:qJ n=true):oq n=n.toNat:=by
 rw[L8]at h
 unfold oq;rw[AL];omega
def Gz(w:World)(aO pb:Nat)(v:Value)(bad:Bool)(bs:List Nat):Prop:=iV w pb 117 [v,.bool bad]/\Own Qd 1 5 w aO v bs
theorem Gz.below{w w':World}{aO pb:Nat}{v:Value}{bad:Bool}{bs:List Nat}(h:Gz w aO pb v bad bs)(hb:Below w.heap.size w w'):Gz w' aO pb v bad bs:=
 ⟨h.1.below hb h.1.lt,h.2.below hb⟩
theorem Gz.alloc{w:World}{aO pb:Nat}{v:Value}{bad:Bool}{bs:List Nat}(h:Gz w aO pb v bad bs)(o:Obj):Gz (w.alloc o) aO pb v bad bs:=h.below ((aj _ _).alloc (au _) _)
theorem Gz.push{w w':World}{aO pb:Nat}{v v':Value}{bad:Bool}{bs bs':List Nat}(h:Gz w aO pb v bad bs)(hg:w.grownBy w' v.ownBlock)(ho:Own Qd 1 5 w' aO v' bs'):Gz (w'.setCell ⟨pb,0,none⟩ v') aO pb v' bad bs'/\w'.grownBy (w'.setCell ⟨pb,0,none⟩ v') (some pb):=by
 have hb:iV w' pb 117 [v,.bool bad]:=h.1.grown hg (by
  rcases Own.mQ h.2 h.1 (by decide)with hn|hn
  ·rw[hn];intro he;cases he
  ·exact λhe=>hn he.symm)
 obtain⟨h1,h2⟩:=xA hb 0 v';exact⟨⟨h1,ho.kept h2 (Own.mQ ho hb (by decide))⟩,h2⟩
theorem Gz.mark{w:World}{aO pb:Nat}{v:Value}{bad:Bool}{bs:List Nat}(h:Gz w aO pb v bad bs)(c:Bool):Gz (w.setCell ⟨pb,1,none⟩ (.bool c)) aO pb v c bs/\w.grownBy (w.setCell ⟨pb,1,none⟩ (.bool c)) (some pb):=by
 obtain⟨h1,h2⟩:=xA h.1 1 (.bool c);exact⟨⟨h1,h.2.kept h2 (Own.mQ h.2 h.1 (by decide))⟩,h2⟩
end Wh
namespace Wh
open Go Go.RowKit Go.Shelf Go.Proofs Tryz
attribute [local go_sem] aT jW jm kC
section
variable {ops:Array Oper} {rest:List Oper} {o:Oper} {a:Act} {w:World} {Q:Exit→Act→World→Prop} {aO pb:Nat} {v:Value} {bad:Bool} {bs:List Nat}
theorem OQ(hgd:o.guard=none)(x y:Operand)(ho:o.op=.store 4 x y)(hn:o.dst=none){c:Bool}(hP:Gz w aO pb v bad bs)(hx:a.eval x=.pointer (some ⟨pb,1,none⟩))(hy:a.eval y=.bool c)
  (h:∀w',Gz w' aO pb v c bs->w.grownBy w' (some pb)->wpList prog ops Q rest a w'):wpList prog ops Q (o::rest) a w:=
 jv hgd λK hK=>by
  obtain⟨h1,h2⟩:=hP.mark c;have h3:=h _ h1 h2;have hc:=hP.1.cell (j:=1) rfl;have hf:=hP.1.frozen 1;clear h hP h1 h2;unfold Oper.wp;simp only[execOp,ho,hx,hy];go_simp
  exact hK _ _ h3
theorem OO(hgd:o.guard=none)(x y:Operand)(ho:o.op=.store 115 x y)(hn:o.dst=none){w0:World}{A:Option Addr}{n c:Nat}{bs':List Nat}(hP:Gz w0 aO pb v bad bs)(hg:w0.grownBy w v.ownBlock)(hO:Own Qd 1 5 w aO (.slice A n c) bs')
  (hx:a.eval x=.pointer (some ⟨pb,0,none⟩)) (hy:a.eval y=.slice A n c)
  (h:∀w',Gz w' aO pb (.slice A n c) bad bs'->w.grownBy w' (some pb)->wpList prog ops Q rest a w'):wpList prog ops Q (o::rest) a w:=
 jv hgd λK hK=>by
  obtain⟨h1,h2⟩:=hP.push hg hO;have h3:=h _ h1 h2;have hb:iV w pb 117 [v,.bool bad]:=hP.1.grown hg (by
   rcases Own.mQ hP.2 hP.1 (by decide)with hn|hn
   ·rw[hn];intro he;cases he
   ·exact λhe=>hn he.symm)
  have hc:=hb.cell (j:=0) rfl;have hf:=hb.frozen 0;clear h hP h1 h2 hg hO hb;unfold Oper.wp;simp only[execOp,ho,hx,hy];go_simp
  exact hK _ _ h3
end
theorem UO{l:List Int}{k:Nat}(h:k<l.length)(bad:Bool):(bad||!((l.take (k+1)).all qJ))=((bad||!((l.take k).all qJ))||!qJ l[k]):=by
 rw[Dq h,AB];cases bad<;>cases(l.take k).all qJ<;>cases h2:qJ l[k]<;>simp[h2]
theorem Ru{n:Int}:qJ n=false↔n<0\/255<n:=by
 rw[Bool.eq_false_iff,Ne,L8];omega
theorem jlX(w:World){aO pb lb:Nat}{v:Value}{bad:Bool}{bs:List Nat}{l:List Int}(hP:Gz w aO pb v bad bs)(rV:aO<=w.heap.size)(hl:iV w lb 3 (l.map (Value.int .i64)))(hn:l.length<=8)(hbn:bs.length<=70368744177664):
  Calls prog 84 #[.pointer (some ⟨pb,0,none⟩),.slice (some ⟨lb,0,none⟩) l.length l.length] w λe w'=>e=.returned (.tuple #[])/\∃v',Gz w' aO pb v' (bad||!(l.all qJ)) (bs++l.map oq)/\
   (∀k,v'.ownBlock=some k->v.ownBlock=some k\/w.heap.size<=k)/\Step (λj=>j=pb\/v.ownBlock=some j) w w':=by
 have hP':=ah hP;have hl':=ah hl;have hll:=hl.lt;clear hP hl;go_enter func84,ntmps84
 go_wp2_with fail;go_loopw[8,5] (λi _ wr=>∃(k:Nat) (v':Value),k<=l.length/\i=.int .i64 k/\Gz wr aO pb v' (bad||!((l.take k).all qJ)) (bs++(l.take k).map oq)/\(∀q,v'.ownBlock=some q->v.ownBlock=some q\/w.heap.size<=q)/\Step (λj=>j=pb\/v.ownBlock=some j) w wr) (λi _ _=>l.length - (RowKit.intOf i).toNat)
 case atStart=>exact⟨0,v,aK _,rfl,by simpa using hP'.O,λq hq=>.inl hq,Step.refl _ _⟩
 case round=>
  obtain⟨k,v',hk,rfl,hP,hvb,hst⟩:=hrel;have SI:=ah hvb;have hst':=ah hst;clear hvb hst;have jqL:=hst'.O.size;by_cases hlt:k<l.length
  ·have hki:(k:Int)<(l.length:Int):=by omega
   have jnU:=hst'.O.blk hl'.O (λhh=>by
    rcases hh with rfl|hh
    ·exact(hl'.O.ne hP'.O.1 (by decide)) rfl
    ·rcases Own.mQ hP'.O.2 hl'.O (by decide)with h|h
     ·rw[h]at hh;cases hh
     ·exact h hh)
   obtain⟨x,hx⟩:∃x,l[k]=x:=⟨_,rfl⟩;have hcx:wr.cell? ⟨lb,k,none⟩=some (.int .i64 x):=jnU.cell (j:=k) (by rw[iZ,bf hlt,hx];rfl)
   have hx':=ah hx;have hwx:=Uk x;obtain⟨bo,hbo⟩:∃bo,(bad||!((l.take k).all qJ))=bo:=⟨_,rfl⟩
   obtain⟨bs1,jag⟩:∃bs1,bs++(l.take k).map oq=bs1:=⟨_,rfl⟩;rw[hbo,jag]at hP
   have kD:bs1.length+1<=140737488355328:=by
    rw[<- jag,aZ,fU,bT];omega
   have hPr:=ah hP;have c0:=hP.1.cell (j:=0) rfl;have c1:=hP.1.cell (j:=1) rfl;have lpb:=hP.1.lt;have llb:=jnU.lt;have jk9:=ah hbo;have hbs':=ah jag;clear hP jnU hbo jag hx;cases bo
   ·by_cases h1:x<0
    ·have t1:=iG h1;have hY:qJ l[k]=false:=by rw[hx'.O];exact Ru.2 (.inl h1)
     clear h1;have hR:(bad||!((l.take (k+1)).all qJ))=true:=by rw[UO hlt,jk9.O];simp[hY]
     have hR':=ah hR;clear hR hY;go_wp2_with (refine OQ rfl (.tmp 26) (.tmp 24) rfl rfl (c:=true) hPr.O rfl rfl (λw2 hP2 hg2=>?_);refine aW ?_)
     unfold Hid;have QG:=ah hP2;have c0:=hP2.1.cell (j:=0) rfl;have lp2:=hP2.1.lt;have hsz2:=hg2.size;have hst2:=ah (hst'.O.trans (Step.jR (ks:=λj=>j=pb\/v.ownBlock=some j) hg2 (λq hq=>.inl (by injection hq with hq;exact hq.symm))))
     clear hP2 hg2 c1 hcx lpb;go_wp2_with (refine Ih _ rfl (.tmp 31) (.tmp 34) 115 5 rfl aO _ 1 1 underlying115 infoByte rfl (by decide) v' bs1 (oq x) rfl (QG.O.2.alloc _) ⟨w2.heap.size,0,none⟩ 1 rfl rfl (uF _ _ _) (one_byte _) (by rw[nC];exact kD) kD (by rw[cO];omega) (λv9 w9 E8 je Np Hq=>?_);refine aW ?_)
     unfold Hid;obtain⟨A9,c9,rfl⟩:=E8.isSlice;have MB:=ah E8;have NZ:=ah je;have hPa:=ah (QG.O.alloc (.cells #[.int .u8 (oq x)] 5));clear E8 je c0;go_wp2_with (refine OO rfl (.tmp 37) (.tmp 35) rfl rfl hPa.O NZ.O MB.O rfl rfl (λw10 WH Cb=>?_);refine aW ?_)
     unfold Hid;have WG:=ah (show Gz w10 aO pb _ (bad||!((l.take (k+1)).all qJ)) (bs++(l.take (k+1)).map oq)by rw[hR'.O,Dq hlt,fJ,<- eH,hbs'.O,dn,jL,hx'.O];exact WH)
     have xu:=ah (((hst2.O.trans (Step.of_below ((aj _ _).alloc (au _) (.cells #[.int .u8 (oq x)] 5)))).trans' (Step.jR (ks:=λq=>v'.ownBlock=some q) NZ.O (λq hq=>hq)) (λq hq h=>.inr ((SI.O q h).resolve_right (by omega)))).trans (Step.jR (ks:=λj=>j=pb\/v.ownBlock=some j) Cb (λq hq=>.inl (by injection hq with hq;exact hq.symm))))
     have jdQ:=ah (show ∀q,(Value.slice A9 (bs1++[oq x]).length c9).ownBlock=some q->v.ownBlock=some q\/w.heap.size<=q from λq hq=>by
      rcases Np with h|h
      ·exact SI.O q (by rw[<- h];exact hq)
      ·rw[h,cO]at hq
       injection hq with hq
       have:=hst2.O.size;exact .inr (by omega))
     clear WH Cb Np Hq MB NZ hPa QG hst2 hPr SI hst';go_wp2_with fail;go_roundw
     case rel=>exact⟨k+1,_,by omega,by go_num,WG.O,jdQ.O,xu.O⟩
     case measure=>simp[RowKit.intOf];omega
    ·have t1:=fA h1;by_cases h2:255<x
     ·have t2:=iG h2;have hY:qJ l[k]=false:=by rw[hx'.O];exact Ru.2 (.inr h2)
      clear h1 h2;have hR:(bad||!((l.take (k+1)).all qJ))=true:=by rw[UO hlt,jk9.O];simp[hY]
      have hR':=ah hR;clear hR hY;go_wp2_with (refine OQ rfl (.tmp 26) (.tmp 24) rfl rfl (c:=true) hPr.O rfl rfl (λw2 hP2 hg2=>?_);refine aW ?_)
      unfold Hid;have QG:=ah hP2;have c0:=hP2.1.cell (j:=0) rfl;have lp2:=hP2.1.lt;have hsz2:=hg2.size;have hst2:=ah (hst'.O.trans (Step.jR (ks:=λj=>j=pb\/v.ownBlock=some j) hg2 (λq hq=>.inl (by injection hq with hq;exact hq.symm))))
      clear hP2 hg2 c1 hcx lpb;go_wp2_with (refine Ih _ rfl (.tmp 31) (.tmp 34) 115 5 rfl aO _ 1 1 underlying115 infoByte rfl (by decide) v' bs1 (oq x) rfl (QG.O.2.alloc _) ⟨w2.heap.size,0,none⟩ 1 rfl rfl (uF _ _ _) (one_byte _) (by rw[nC];exact kD) kD (by rw[cO];omega) (λv9 w9 E8 je Np Hq=>?_);refine aW ?_)
      unfold Hid;obtain⟨A9,c9,rfl⟩:=E8.isSlice;have MB:=ah E8;have NZ:=ah je;have hPa:=ah (QG.O.alloc (.cells #[.int .u8 (oq x)] 5));clear E8 je c0;go_wp2_with (refine OO rfl (.tmp 37) (.tmp 35) rfl rfl hPa.O NZ.O MB.O rfl rfl (λw10 WH Cb=>?_);refine aW ?_)
      unfold Hid;have WG:=ah (show Gz w10 aO pb _ (bad||!((l.take (k+1)).all qJ)) (bs++(l.take (k+1)).map oq)by rw[hR'.O,Dq hlt,fJ,<- eH,hbs'.O,dn,jL,hx'.O];exact WH)
      have xu:=ah (((hst2.O.trans (Step.of_below ((aj _ _).alloc (au _) (.cells #[.int .u8 (oq x)] 5)))).trans' (Step.jR (ks:=λq=>v'.ownBlock=some q) NZ.O (λq hq=>hq)) (λq hq h=>.inr ((SI.O q h).resolve_right (by omega)))).trans (Step.jR (ks:=λj=>j=pb\/v.ownBlock=some j) Cb (λq hq=>.inl (by injection hq with hq;exact hq.symm))))
      have jdQ:=ah (show ∀q,(Value.slice A9 (bs1++[oq x]).length c9).ownBlock=some q->v.ownBlock=some q\/w.heap.size<=q from λq hq=>by
       rcases Np with h|h
       ·exact SI.O q (by rw[<- h];exact hq)
       ·rw[h,cO]at hq
        injection hq with hq
        have:=hst2.O.size;exact .inr (by omega))
      clear WH Cb Np Hq MB NZ hPa QG hst2 hPr SI hst';go_wp2_with fail;go_roundw
      case rel=>exact⟨k+1,_,by omega,by go_num,WG.O,jdQ.O,xu.O⟩
      case measure=>simp[RowKit.intOf];omega
     ·have t2:=fA h2;have hY:qJ l[k]=true:=by rw[hx'.O];exact L8.2 (by omega)
      clear h1 h2;have hR:(bad||!((l.take (k+1)).all qJ))=false:=by rw[UO hlt,jk9.O];simp[hY]
      have hR':=ah hR;clear hR hY;go_wp2_with (refine OQ rfl (.tmp 26) (.tmp 24) rfl rfl (c:=false) hPr.O rfl rfl (λw2 hP2 hg2=>?_);refine aW ?_)
      unfold Hid;have QG:=ah hP2;have c0:=hP2.1.cell (j:=0) rfl;have lp2:=hP2.1.lt;have hsz2:=hg2.size;have hst2:=ah (hst'.O.trans (Step.jR (ks:=λj=>j=pb\/v.ownBlock=some j) hg2 (λq hq=>.inl (by injection hq with hq;exact hq.symm))))
      clear hP2 hg2 c1 hcx lpb;go_wp2_with (refine Ih _ rfl (.tmp 31) (.tmp 34) 115 5 rfl aO _ 1 1 underlying115 infoByte rfl (by decide) v' bs1 (oq x) rfl (QG.O.2.alloc _) ⟨w2.heap.size,0,none⟩ 1 rfl rfl (uF _ _ _) (one_byte _) (by rw[nC];exact kD) kD (by rw[cO];omega) (λv9 w9 E8 je Np Hq=>?_);refine aW ?_)
      unfold Hid;obtain⟨A9,c9,rfl⟩:=E8.isSlice;have MB:=ah E8;have NZ:=ah je;have hPa:=ah (QG.O.alloc (.cells #[.int .u8 (oq x)] 5));clear E8 je c0;go_wp2_with (refine OO rfl (.tmp 37) (.tmp 35) rfl rfl hPa.O NZ.O MB.O rfl rfl (λw10 WH Cb=>?_);refine aW ?_)
      unfold Hid;have WG:=ah (show Gz w10 aO pb _ (bad||!((l.take (k+1)).all qJ)) (bs++(l.take (k+1)).map oq)by rw[hR'.O,Dq hlt,fJ,<- eH,hbs'.O,dn,jL,hx'.O];exact WH)
      have xu:=ah (((hst2.O.trans (Step.of_below ((aj _ _).alloc (au _) (.cells #[.int .u8 (oq x)] 5)))).trans' (Step.jR (ks:=λq=>v'.ownBlock=some q) NZ.O (λq hq=>hq)) (λq hq h=>.inr ((SI.O q h).resolve_right (by omega)))).trans (Step.jR (ks:=λj=>j=pb\/v.ownBlock=some j) Cb (λq hq=>.inl (by injection hq with hq;exact hq.symm))))
      have jdQ:=ah (show ∀q,(Value.slice A9 (bs1++[oq x]).length c9).ownBlock=some q->v.ownBlock=some q\/w.heap.size<=q from λq hq=>by
       rcases Np with h|h
       ·exact SI.O q (by rw[<- h];exact hq)
       ·rw[h,cO]at hq
        injection hq with hq
        have:=hst2.O.size;exact .inr (by omega))
      clear WH Cb Np Hq MB NZ hPa QG hst2 hPr SI hst';go_wp2_with fail;go_roundw
      case rel=>exact⟨k+1,_,by omega,by go_num,WG.O,jdQ.O,xu.O⟩
      case measure=>simp[RowKit.intOf];omega
   ·have hY:True:=trivial;have hR:(bad||!((l.take (k+1)).all qJ))=true:=by rw[UO hlt,jk9.O];simp[Bool.true_or]
    have hR':=ah hR;clear hR hY;go_wp2_with (refine OQ rfl (.tmp 26) (.tmp 24) rfl rfl (c:=true) hPr.O rfl rfl (λw2 hP2 hg2=>?_);refine aW ?_)
    unfold Hid;have QG:=ah hP2;have c0:=hP2.1.cell (j:=0) rfl;have lp2:=hP2.1.lt;have hsz2:=hg2.size;have hst2:=ah (hst'.O.trans (Step.jR (ks:=λj=>j=pb\/v.ownBlock=some j) hg2 (λq hq=>.inl (by injection hq with hq;exact hq.symm))))
    clear hP2 hg2 c1 hcx lpb;go_wp2_with (refine Ih _ rfl (.tmp 31) (.tmp 34) 115 5 rfl aO _ 1 1 underlying115 infoByte rfl (by decide) v' bs1 (oq x) rfl (QG.O.2.alloc _) ⟨w2.heap.size,0,none⟩ 1 rfl rfl (uF _ _ _) (one_byte _) (by rw[nC];exact kD) kD (by rw[cO];omega) (λv9 w9 E8 je Np Hq=>?_);refine aW ?_)
    unfold Hid;obtain⟨A9,c9,rfl⟩:=E8.isSlice;have MB:=ah E8;have NZ:=ah je;have hPa:=ah (QG.O.alloc (.cells #[.int .u8 (oq x)] 5));clear E8 je c0;go_wp2_with (refine OO rfl (.tmp 37) (.tmp 35) rfl rfl hPa.O NZ.O MB.O rfl rfl (λw10 WH Cb=>?_);refine aW ?_)
    unfold Hid;have WG:=ah (show Gz w10 aO pb _ (bad||!((l.take (k+1)).all qJ)) (bs++(l.take (k+1)).map oq)by rw[hR'.O,Dq hlt,fJ,<- eH,hbs'.O,dn,jL,hx'.O];exact WH)
    have xu:=ah (((hst2.O.trans (Step.of_below ((aj _ _).alloc (au _) (.cells #[.int .u8 (oq x)] 5)))).trans' (Step.jR (ks:=λq=>v'.ownBlock=some q) NZ.O (λq hq=>hq)) (λq hq h=>.inr ((SI.O q h).resolve_right (by omega)))).trans (Step.jR (ks:=λj=>j=pb\/v.ownBlock=some j) Cb (λq hq=>.inl (by injection hq with hq;exact hq.symm))))
    have jdQ:=ah (show ∀q,(Value.slice A9 (bs1++[oq x]).length c9).ownBlock=some q->v.ownBlock=some q\/w.heap.size<=q from λq hq=>by
     rcases Np with h|h
     ·exact SI.O q (by rw[<- h];exact hq)
     ·rw[h,cO]at hq
      injection hq with hq
      have:=hst2.O.size;exact .inr (by omega))
    clear WH Cb Np Hq MB NZ hPa QG hst2 hPr SI hst';go_wp2_with fail;go_roundw
    case rel=>exact⟨k+1,_,by omega,by go_num,WG.O,jdQ.O,xu.O⟩
    case measure=>simp[RowKit.intOf];omega
  ·obtain rfl:k=l.length:=by omega
   rw[fG]at hP
   have hPr:=ah hP;clear hP;go_wp2_with fail;go_end0
   exact⟨rfl,v',hPr.O,SI.O,hst'.O⟩
end Wh
namespace Wh
open Go Go.RowKit Go.Shelf Go.Proofs Tryz
attribute [local go_sem] aT jW jm kC
def pz(l:List Nat):ByteArray:=⟨(l.map UInt8.ofNat).toArray⟩
theorem Ze(n:Int):oq n<256:=by
 unfold oq;rw[AL];omega
def JU(x:Line):List Nat:=[oq x.dh,oq x.iw,oq x.oh,oq x.dP]
theorem jdE{x:Line}(h:Jf x=true):JU x=O8 x:=by
 unfold Jf at h
 simp only[bG]at h
 unfold JU O8;rw[BL h.1.1.1,BL h.1.1.2,BL h.1.2,BL h.2]
theorem jbv{l:List Line}(h:l.all Jf=true):l.flatMap JU=l.flatMap O8:=by
 induction l with
 |nil=>rfl
 |cons y r ih=>
  rw[zl,bG]at h
  rw[kR,kR,jdE h.1,ih h.2]
theorem jbx(l:List Line):(l.flatMap JU).length=4*l.length:=by
 induction l with
 |nil=>rfl
 |cons y r ih=>rw[kR,aZ,ih,dw];simp[JU];omega
theorem jdD(l:List Line):∀n∈l.flatMap JU,n<256:=λn hn=>by
 obtain⟨y,_,hy⟩:=oL.1 hn;simp only[JU,jM,oK,ny]at hy
 rcases hy with rfl|rfl|rfl|rfl<;>exact Ze _
def GR(x:yK)(k:Nat):List Nat:=[oq x.dW,oq x.a,oq x.b,oq x.c,oq x.n,oq x.aH.length]++(x.aH.take k).flatMap JU
def XE(x:yK)(k:Nat):Bool:=!([x.dW,x.a,x.b,x.c,x.n].all qJ)||!((x.aH.take k).all Jf)
theorem jfA(x:yK)(k:Nat):(GR x k).length<=6+4*k:=by
 unfold GR;rw[aZ,jbx,bT];simp only[dw,dY];omega
theorem jgP(x:yK)(k:Nat):∀n∈GR x k,n<256:=λn hn=>by
 rcases jT.1 hn with h|h
 ·simp only[jM,oK,ny]at h
  rcases h with rfl|rfl|rfl|rfl|rfl|rfl<;>exact Ze _
 ·exact jdD _ n h
theorem jc8{x:yK}{k:Nat}(h:k<x.aH.length):GR x (k+1)=GR x k++[(gK x.aH k).dh,(gK x.aH k).iw,(gK x.aH k).oh,(gK x.aH k).dP].map oq:=by
 have e:gK x.aH k=x.aH[k]:=by simp[gK,h]
 unfold GR;rw[e,eH];congr 1
 rw[List.take_add_one,bf h,gy]
 rfl
theorem jfC{x:yK}{k:Nat}(h:k<x.aH.length):XE x (k+1)=(XE x k||!([(gK x.aH k).dh,(gK x.aH k).iw,(gK x.aH k).oh,(gK x.aH k).dP].all qJ)):=by
 have e:gK x.aH k=x.aH[k]:=by simp[gK,h]
 unfold XE;rw[e,List.take_add_one,bf h,AB,DX]
 have e2:((some x.aH[k]).toList.all Jf)=([x.aH[k].dh,x.aH[k].iw,x.aH[k].oh,x.aH[k].dP].all qJ):=by
  simp only[Option.toList_some,zl,DW,Bool.and_true,Jf,Bool.and_assoc]
 rw[e2,Bool.or_assoc]
theorem jgR(x:yK):XE x x.aH.length= !MS x:=by
 unfold XE MS;rw[fG];simp only[zl,DW,Bool.and_true,DX,Bool.or_assoc]
theorem jfB{x:yK}(h:MS x=true)(hn:x.aH.length<=3):GR x x.aH.length=OM x:=by
 have h':=h;unfold MS at h'
 simp only[bG]at h'
 obtain⟨⟨⟨⟨⟨h1,h2⟩,h3⟩,h4⟩,h5⟩,h6⟩:=h';unfold GR OM;have hl:qJ (x.aH.length:Int)=true:=L8.2 (by omega)
 rw[fG,jbv h6,BL h1,BL h2,BL h3,BL h4,BL h5,BL hl];rfl
theorem jex{w:World}{aO:Nat}{A:Option Addr}{n c:Nat}{bs:List Nat}(h:Own Qd 1 5 w aO (.slice A n c) bs)(hlt:∀x∈bs,x<256)(wK:0<bs.length):
  (convert 115 9 (.slice A n c)).run prog w=.ok (.string (pz bs)) w:=by
 obtain⟨g,c',hv,_,_⟩:=h.some_ wK;injection hv with e1 e2 e3
 subst e1 e2 e3;have hc:=λj (hj:j<bs.length)=>h.at (λ_=>rfl) (i:=j) hj
 have key:=run_convert_bytes_back (P:=prog) w 115 9 5 ⟨g,0,none⟩ c (bs.map UInt8.ofNat) underlying115 (by kernel_rfl) (by kernel_rfl) (λj hj=>by
  have hj':j<bs.length:=by simpa using hj
  obtain⟨g',c2,cur,e1,_,_,h4⟩:=hc j hj';injection e1 with e1
  injection e1 with e1
  injection e1 with e1
  subst e1;have h5:=h4 0 _ rfl;rw[gU];have e:((bs.map UInt8.ofNat)[j].toNat:Int)=(bs[j]:Int):=by
   rw[zT];have:=hlt _ (bU hj');simp
   omega
  rw[e];simpa using h5)
 rw[fU]at key
 exact key
theorem Zu(w:World)(aO:Nat)(v:Value)(l:List Nat)(n:Nat)(lC:Own Qd 1 5 w aO v l)(g c:Nat)(hc:w.cell? ⟨g,0,none⟩=some (.int .u8 n))(hn:l.length<=1000)(rV:aO<=w.heap.size):
  ∃v' w',(Builtin.append_ #[115,115] 115 #[v,.slice (some ⟨g,0,none⟩) 1 c]).run prog w=.ok v' w'/\Own Qd 1 5 w' aO v' (l++[n])/\w.grownBy w' v.ownBlock/\Below aO w w':=by
 obtain⟨ii,hi,hz,G8,hbytes⟩:=infoByte;obtain⟨v',w3,hr,hown3,hg3,_,_⟩:=run_append_own_at (P:=prog) w aO 115 115 5 ii _ 1 1 underlying115 hi hz G8 hbytes rfl (by decide) v _ _ lC ⟨g,0,none⟩ 1 c (Qd n) rfl
  (λj u hj=>by
   rw[gU];match j,hj with
   |0,hj=>exact hc.trans hj
   |j+1,hj=>simp[Qd]at hj) (one_byte n) (by unfold maxLen;omega) (by omega) rV
 refine⟨v',w3,hr,?_,hg3,(aj _ _).grown hg3 rV λk hk=>(nK lC k hk).1⟩
 unfold Own;rw[aZ,gy];simpa using hown3
theorem jeD(w:World)(x:yK)(Al:Option Addr)(cl:Nat):∃W:World,((w.alloc (.cells #[.int .i64 x.dW,.int .i64 x.a,.int .i64 x.b,.int .i64 x.c,.int .i64 x.n,.slice Al x.aH.length cl] 34)).alloc (.cells #[.slice none 0 0,.bool false] 117)).alloc (.cells #[.int .i64 x.dW,.int .i64 x.a,.int .i64 x.b,.int .i64 x.c,.int .i64 x.n] 3)=W/\
  Below w.heap.size w W/\Gz W w.heap.size (w.heap.size+1) (.slice none 0 0) false []/\iV W w.heap.size 34 [.int .i64 x.dW,.int .i64 x.a,.int .i64 x.b,.int .i64 x.c,.int .i64 x.n,.slice Al x.aH.length cl]/\iV W (w.heap.size+1+1) 3 ([x.dW,x.a,x.b,x.c,x.n].map (Value.int .i64)):=by
 have h1:iV (w.alloc (.cells #[.int .i64 x.dW,.int .i64 x.a,.int .i64 x.b,.int .i64 x.c,.int .i64 x.n,.slice Al x.aH.length cl] 34)) w.heap.size 34 [.int .i64 x.dW,.int .i64 x.a,.int .i64 x.b,.int .i64 x.c,.int .i64 x.n,.slice Al x.aH.length cl]:=iV.new _ _ _;have h2:=iV.new (w.alloc (.cells #[.int .i64 x.dW,.int .i64 x.a,.int .i64 x.b,.int .i64 x.c,.int .i64 x.n,.slice Al x.aH.length cl] 34)) 117 #[.slice none 0 0,.bool false];rw[cO]at h2
 have h3:=iV.new ((w.alloc (.cells #[.int .i64 x.dW,.int .i64 x.a,.int .i64 x.b,.int .i64 x.c,.int .i64 x.n,.slice Al x.aH.length cl] 34)).alloc (.cells #[.slice none 0 0,.bool false] 117)) 3 #[.int .i64 x.dW,.int .i64 x.a,.int .i64 x.b,.int .i64 x.c,.int .i64 x.n];rw[cO,cO]at h3
 exact⟨_,rfl,(((aj _ _).alloc (au _) _).alloc (by simp) _).alloc (by simp;omega) _,⟨h2.alloc _,Own.nil⟩,(h1.alloc _).alloc _,h3⟩
theorem ZP(w:World)(v:Value)(x:yK)(hv:Ur w w.heap.size v x)(hlb:x.aH.length<=4398046511104):
  Calls prog 28 #[v] w λe w'=>e=.returned (.tuple #[.string (pz (IU x).1),.int .i64 (IU x).2])/\Below w.heap.size w w':=by
 obtain⟨Al,cl,rfl,hX,hL,hll⟩:=Rf hv;clear hv hX;go_enter func28,ntmps28
 go_wp2_with fail;obtain⟨W,hW,hbw,hP0,hbx0,hbi⟩:=jeD w x Al cl;rw[hW];clear hW;refine(jlX W (l:=[x.dW,x.a,x.b,x.c,x.n]) hP0 hbw.size hbi (by simp) (by simp)).mono ?_
 rintro e W1 ⟨rfl,v1,hP1,_,hst1⟩;have hks:∀q,(q=w.heap.size+1\/(Value.slice none 0 0).ownBlock=some q)->q=w.heap.size+1:=λq hq=>by
  rcases hq with h|h
  ·exact h
  ·cases h
 have hB1:=hbw.trans (hst1.below (B:=w.heap.size) (λq hq=>by have:=hks q hq;omega) hbw.size)
 have Qz:=ah (hst1.blk hbx0 (λhh=>by have:=hks _ hh;omega))
 rw[iy,Bool.false_or]at hP1
 obtain⟨bs1,jag⟩:∃bs1,[x.dW,x.a,x.b,x.c,x.n].map oq=bs1:=⟨_,rfl⟩;obtain⟨bd1,hbd1⟩:∃bd1,(!([x.dW,x.a,x.b,x.c,x.n].all qJ))=bd1:=⟨_,rfl⟩;rw[jag,hbd1]at hP1
 have jmk:=ah jag;have jml:=ah hbd1;have hbl:bs1.length=5:=by rw[<- jag];rfl
 clear jag hbd1;have c0:=hP1.1.cell (j:=0) rfl;have x5:=Qz.O.cell (j:=5) rfl;have lx:=Qz.O.lt;have lp:=hP1.1.lt;have hwn:=Uk (x.aH.length:Int);obtain⟨nb,hnb⟩:∃nb,oq (x.aH.length:Int)=nb:=⟨_,rfl⟩;rw[hnb]at hwn
 have hnb':=ah hnb;have hba:Below W1.heap.size W1 (W1.alloc (.cells #[.int .u8 nb] 5)).drew:=((aj _ _).alloc (au _) _).drew;have hca:(W1.alloc (.cells #[.int .u8 nb] 5)).drew.cell? ⟨W1.heap.size,0,none⟩=some (.int .u8 nb):=(iV.new W1 5 #[.int .u8 nb]).drew.cell (j:=0) rfl;obtain⟨v2,w2,hr1,yh,hg2,hb2⟩:=Zu _ w.heap.size v1 _ nb (hP1.2.below hba) W1.heap.size 1 hca (by omega) (aY hB1.size hba.size)
 obtain⟨A2,c2,hv2⟩:=yh.isSlice;obtain⟨n2,hn2⟩:∃n2,(bs1++[nb]).length=n2:=⟨_,rfl⟩;rw[hn2]at hv2
 subst hv2;have hPa:=hP1.below hba;have jk7:iV w2 (w.heap.size+1) 117 [v1,.bool _]:=hPa.1.grown hg2 (by
  rcases Own.mQ hPa.2 hPa.1 (by decide)with hn|hn
  ·rw[hn];intro he;cases he
  ·exact λhe=>hn he.symm)
 have Ji:=Qz.O.below hba lx;have jk6:=ah (show iV w2 w.heap.size 34 _ from Ji.grown hg2 (by
  rcases Own.mQ hPa.2 Ji (by decide)with hn|hn
  ·rw[hn];intro he;cases he
  ·exact λhe=>hn he.symm))
 obtain⟨hP3,hg3⟩:=hPa.push hg2 yh;have ji9:=ah hP3;have hg3':=ah hg3;have b3:=jk7.cell (j:=0) rfl;have f3:=jk7.frozen 0;have lp2:=jk7.lt;have hB2:=ah ((hB1.trans (hba.mono hB1.size)).trans hb2);have hr1':=ah hr1;clear hP1 hst1 hks hbw hP0 hbx0 hbi hr1 yh hg2 hb2 hPa jk7 Ji hP3 hg3 hca hba hnb hn2 hbl;go_wp2_with fail;go_region_law (refine qV _ rfl (.tmp 26) (.tmp 31) 115 115 rfl v1 (.slice (some ⟨W1.heap.size,0,none⟩) 1 1) (by simp[Act.eval]) (by simp[Act.eval]) hr1'.O ?_)
 all_goals
  clear b3 f3 c0 x5 hwn hr1' lp2;have hB3:=hB2.O.grown hg3'.O hB2.O.size (λq hq=>by injection hq with hq;omega)
  have X0:=ah (jk6.O.grown hg3'.O (by intro he;injection he with he;omega))
  clear hB1 Qz lx lp hB2 hg3' jk6;generalize w2.setCell ⟨w.heap.size+1,0,none⟩ (.slice A2 n2 c2)=w4 at ji9 hB3 X0 ⊢
  have hP4:=ah (show Gz w4 w.heap.size (w.heap.size+1) (.slice A2 n2 c2) (XE x 0) (GR x 0)by
   have e1:XE x 0=bd1:=by
    rw[<- jml.O];unfold XE;rw[bV,DW,wH,Bool.or_false]
   have e2:GR x 0=bs1++[nb]:=by
    rw[<- jmk.O,<- hnb'.O];unfold GR;rw[bV,List.flatMap_nil,iJ];rfl
   rw[e1,e2];exact ji9.O)
  clear ji9 jmk jml hnb';have x5:=X0.O.cell (j:=5) rfl;have lx:=X0.O.lt;go_wp2_with fail;clear x5 lx;go_loopw[38,6] (λi _ wr=>∃(k:Nat) (v':Value),k<=x.aH.length/\i=.int .i64 k/\Gz wr w.heap.size (w.heap.size+1) v' (XE x k) (GR x k)/\iV wr w.heap.size 34 [.int .i64 x.dW,.int .i64 x.a,.int .i64 x.b,.int .i64 x.c,.int .i64 x.n,.slice Al x.aH.length cl]/\Below w.heap.size w wr) (λi _ _=>x.aH.length - (RowKit.intOf i).toNat)
  case atStart=>exact⟨0,_,aK _,rfl,hP4.O,X0.O,hB3⟩
  case round=>
   clear hP4 X0 hB3;obtain⟨k,v',hk,rfl,hP,hbx,hBr⟩:=hrel;have hP':=ah hP;have AZ:=ah hbx;clear hP hbx;by_cases hlt:k<x.aH.length
   ·have hki:(k:Int)<(x.aH.length:Int):=by omega
    obtain⟨okl,ll,f0,f1,f2,f3⟩:=(hL.O wr hBr).at_.aG hlt;have hws:=ah (jc8 hlt);have hwb:=ah (jfC hlt);obtain⟨y,hy⟩:∃y,gK x.aH k=y:=⟨_,rfl⟩;rw[hy]at f0 f1 f2 f3 hws hwb
    clear hy;go_wp2_with fail;clear f0 f1 f2 f3 okl ll;have hb2:Below wr.heap.size wr ((wr.alloc (.cells #[.int .i64 y.dh,.int .i64 y.iw,.int .i64 y.oh,.int .i64 y.dP] 44)).alloc (.cells #[.int .i64 y.dh,.int .i64 y.iw,.int .i64 y.oh,.int .i64 y.dP] 3)):=((aj _ _).alloc (au _) _).alloc (by simp) _
    have hbi:iV ((wr.alloc (.cells #[.int .i64 y.dh,.int .i64 y.iw,.int .i64 y.oh,.int .i64 y.dP] 44)).alloc (.cells #[.int .i64 y.dh,.int .i64 y.iw,.int .i64 y.oh,.int .i64 y.dP] 3)) (wr.heap.size+1) 3 ([y.dh,y.iw,y.oh,y.dP].map (Value.int .i64)):=by
     have h:=iV.new (wr.alloc (.cells #[.int .i64 y.dh,.int .i64 y.iw,.int .i64 y.oh,.int .i64 y.dP] 44)) 3 #[.int .i64 y.dh,.int .i64 y.iw,.int .i64 y.oh,.int .i64 y.dP];rw[cO]at h
     exact h
    generalize (wr.alloc (.cells #[.int .i64 y.dh,.int .i64 y.iw,.int .i64 y.oh,.int .i64 y.dP] 44)).alloc (.cells #[.int .i64 y.dh,.int .i64 y.iw,.int .i64 y.oh,.int .i64 y.dP] 3)=W2 at hb2 hbi ⊢
    have hwl:=jfA x k;refine(jlX W2 (l:=[y.dh,y.iw,y.oh,y.dP]) (hP'.O.below hb2) (aY hBr.size hb2.size) hbi (by simp) (by omega)).mono ?_
    rintro e W3 ⟨rfl,v3,hP3,_,hst3⟩;have hks:∀q,(q=w.heap.size+1\/v'.ownBlock=some q)->w.heap.size<=q/\q≠w.heap.size:=λq hq=>by
     rcases hq with rfl|hq
     ·omega
     ·refine⟨(hP'.O.2.size q hq).1,λhe=>?_⟩
      rcases Own.mQ hP'.O.2 AZ.O (by decide)with h|h
      ·rw[h]at hq;cases hq
      ·exact h (by rw[hq,he])
    have hB3:=(hBr.trans (hb2.mono hBr.size)).trans (hst3.below (B:=w.heap.size) (λq hq=>(hks q hq).1) (aY hBr.size hb2.size))
    have jk6:=ah (hst3.blk (AZ.O.below hb2 AZ.O.lt) (λhh=>(hks _ hh).2 rfl))
    have ji9:=ah (show Gz W3 w.heap.size (w.heap.size+1) v3 (XE x (k+1)) (GR x (k+1))by rw[hws.O,hwb.O];exact hP3)
    clear hP3 hst3 hks hb2 hbi hP' AZ hws hwb hwl;go_wp2_with fail;go_roundw
    case rel=>exact⟨k+1,v3,by omega,by go_num,ji9.O,jk6.O,hB3⟩
    case measure=>simp[RowKit.intOf];omega
   ·obtain rfl:k=x.aH.length:=by omega
    have c1:=hP'.O.1.cell (j:=1) rfl;have c0:=hP'.O.1.cell (j:=0) rfl;have lp:=hP'.O.1.lt;have x5:=AZ.O.cell (j:=5) rfl;have lx:=AZ.O.lt;rw[jgR]at c1
    clear hlt;cases hab:MS x
    ·rw[hab]at c1
     have bK:=ah (show IU x=([],3)by unfold IU;rw[hab];rfl)
     clear hab;go_wp2_with fail;exact fD (v:=.tuple #[.string (pz []),.int .i64 3]) (by simp[results,results28,go_sem,pz]) rfl ⟨by rw[bK.O],hBr⟩
    ·rw[hab]at c1
     by_cases h3:3<x.aH.length
     ·have bK:=ah (show IU x=([],2)by unfold IU;rw[hab,ay (by simp),aB h3])
      have h3i:(3:Int)<(x.aH.length:Int):=by omega
      clear hab;go_wp2_with fail;exact fD (v:=.tuple #[.string (pz []),.int .i64 2]) (by simp[results,results28,go_sem,pz]) rfl ⟨by rw[bK.O],hBr⟩
     ·have bK:=ah (show IU x=(GR x x.aH.length,0)by unfold IU;rw[hab,ay (by simp),ay h3,jfB hab (by omega)])
      have h3i:¬(3:Int)<(x.aH.length:Int):=by omega
      obtain⟨A9,c9,Np⟩:=hP'.O.2.isSlice;obtain⟨n9,hn9⟩:∃n9,(GR x x.aH.length).length=n9:=⟨_,rfl⟩;rw[hn9]at Np
      subst Np;have hconv:=jex hP'.O.2 (jgP x _) (by unfold GR;simp)
      clear hab hn9;go_wp2_with fail;exact fD (v:=.tuple #[.string (pz (GR x x.aH.length)),.int .i64 0]) (by simp[results,results28,go_sem]) rfl ⟨by rw[bK.O],hBr⟩
end Wh
namespace Wh
open Go Go.RowKit Go.Shelf Go.Proofs Tryz
attribute [local go_sem] aT jW jm kC
theorem Gy(l:List Nat):(pz l).size=l.length:=by simp[pz,ByteArray.size]
theorem jgC(n:Nat)(r:List Nat):(pz (n::r)).extract 1 (r.length+1)=pz r:=by
 unfold pz;rw[BR];have h:((n::r).map UInt8.ofNat).drop 1=r.map UInt8.ofNat:=rfl;rw[h,kN (by simp)]
theorem Zf(l:List Nat):(pz l).toList=l.map UInt8.ofNat:=by
 rw[xX];simp[pz]
theorem jjK(n:Nat)(r:List Nat)(hn:n<256)(h:0<(pz (n::r)).size):(((pz (n::r))[0]'h).toNat:Int)=n:=by
 have e:(pz (n::r))[0]'h=UInt8.ofNat n:=rfl;rw[e];simp
 omega
theorem jlY(w:World){gb n:Nat}{r:List Nat}(hg:iV w gb 176 [.string (pz (n::r))])(hn:n<256):
  Calls prog 146 #[.pointer (some ⟨gb,0,none⟩)] w λe w'=>e=.returned (.int .i64 n)/\iV w' gb 176 [.string (pz r)]/\w.grownBy w' (some gb):=by
 have c0:=hg.cell (j:=0) rfl;have f0:=hg.frozen 0;have hsz:=Gy (n::r);have hne:(pz (n::r)).toList.isEmpty=false:=by rw[Zf];rfl
 have htl:=jgC n r;have hg':=ah hg;clear hg;go_enter func146,ntmps146
 go_wp2_with fail;go_ret
 obtain⟨h1,h2⟩:=xA hg'.O 0 (.string (pz r));refine⟨?_,h1,h2⟩
 rw[jjK n r hn];have:wrap64 (n:Int)=n:=by unfold wrap64;omega
 rw[this];rfl
theorem VU(w:World){gb:Nat}(hg:iV w gb 176 [.string (pz [])]):
  Calls prog 146 #[.pointer (some ⟨gb,0,none⟩)] w λe w'=>e=.panicked [{v:=.iface 181 (.agg #[]),recovered:=false}]/\w=w':=by
 have c0:=hg.cell (j:=0) rfl;have hne:(pz []).toList.isEmpty=true:=by rw[Zf];rfl
 go_enter func146,ntmps146
 go_wp2_with fail;exact⟨rfl,rfl,rfl⟩
def jmE:List PanicEntry:=[{v:=.iface 181 (.agg #[]),recovered:=false}]
def jjW(w:World)(gb tb m:Nat)(T:TypeId)(l:List Nat)(cs:List Value)(e:Ending)(w':World):Prop:=
 Step (λj=>j=gb\/j=tb) w w'/\((m<=l.length/\e=.returned (.tuple #[])/\iV w' gb 176 [.string (pz (l.drop m))]/\iV w' tb T ((l.take m).map (λn:Nat=>Value.int .i64 n)++cs.drop m))\/
  (l.length<m/\e=.panicked jmE/\∃cs',cs'.length=cs.length/\iV w' tb T cs'))
theorem jhW{l:List Nat}{cs:List Value}{k:Nat}(hk:k<l.length)(hc:k<cs.length):((l.take k).map (λn:Nat=>Value.int .i64 n)++cs.drop k).set k (.int .i64 (l[k]:Nat))=(l.take (k+1)).map (λn:Nat=>Value.int .i64 n)++cs.drop (k+1):=by
 have e1:((l.take k).map (λn:Nat=>Value.int .i64 n)).length=k:=by rw[fU,bT];omega
 have h:=mG (s:=(l.take k).map (λn:Nat=>Value.int .i64 n)) (t:=cs.drop k) k (.int .i64 (l[k]:Nat)) (by rw[e1];exact au _)
 rw[h,e1,rM,jE hc,dF,Dq hk,fJ,eH];rfl
theorem jhP(w:World){gb tb lb m:Nat}{T:TypeId}{l:List Nat}{cs:List Value}(hg:iV w gb 176 [.string (pz l)])(ht:iV w tb T cs)(hT:T≠176)(hT2:T≠178)
  (hl:iV w lb 178 ((List.range m).map λi=>Value.pointer (some ⟨tb,i,none⟩))) (hm:m<=cs.length) (hm8:m<=8) (hb:∀n∈l,n<256):
  Calls prog 145 #[.pointer (some ⟨gb,0,none⟩),.slice (some ⟨lb,0,none⟩) m m] w (jjW w gb tb m T l cs):=by
 have hg':=ah hg;have ht':=ah ht;have hl':=ah hl;have hb':=ah hb;have n1:tb≠gb:=ht.ne hg hT;have n2:lb≠gb:=hl.ne hg (by decide)
 have n3:lb≠tb:=hl.ne ht (zO hT2);clear hg ht hl hb;go_enter func145,ntmps145
 go_wp2_with fail;go_loopw[8,5] (λi _ wr=>∃k:Nat,k<=m/\k<=l.length/\i=.int .i64 k/\iV wr gb 176 [.string (pz (l.drop k))]/\iV wr tb T ((l.take k).map (λn:Nat=>Value.int .i64 n)++cs.drop k)/\Step (λj=>j=gb\/j=tb) w wr) (λi _ _=>m - (RowKit.intOf i).toNat)
 case atStart=>exact⟨0,aK _,aK _,rfl,hg'.O,by simpa using ht'.O,Step.refl _ _⟩
 case round=>
  obtain⟨k,hk,hkl,rfl,hg,ht,hst⟩:=hrel;have hgr:=ah hg;have htr:=ah ht;have hst':=ah hst;clear hg ht hst;by_cases hlt:k<m
  ·have hki:(k:Int)<(m:Int):=by omega
   have hcl:wr.cell? ⟨lb,k,none⟩=some (.pointer (some ⟨tb,k,none⟩)):=(hst'.O.blk hl'.O (by omega)).cell (j:=k) (by rw[iZ,nD hlt];rfl)
   have ll:=(hst'.O.blk hl'.O (show ¬(lb=gb\/lb=tb)by omega)).lt
   by_cases kD:k<l.length
   ·have hdr:l.drop k=l[k]::l.drop (k+1):=jE kD;have hn:=hb'.O _ (bU kD);have hset:=ah (jhW kD (show k<cs.length by omega))
    obtain⟨n,hnn⟩:∃n,l[k]=n:=⟨_,rfl⟩;rw[hnn]at hdr hn hset
    have jk1:=ah (show iV wr gb 176 [.string (pz (n::l.drop (k+1)))]by rw[<- hdr];exact hgr.O)
    clear hdr hgr hnn;go_wp2_with fail;refine(jlY wr jk1.O hn).mono ?_
    rintro e W1 ⟨rfl,hg1,hgn⟩;have ht1:=ah (htr.O.grown hgn (by intro he;injection he with he;exact n1 he))
    have hg1':=ah hg1;have hst1:=ah (hst'.O.trans (Step.jR (ks:=λj=>j=gb\/j=tb) hgn (λq hq=>by injection hq with hq;exact .inl hq.symm)))
    have c1:∃u,W1.cell? ⟨tb,k,none⟩=some u:=⟨_,ht1.O.cell (j:=k) (bf (by rw[aZ,fU,bT,fQ];omega))⟩
    obtain⟨u,c1⟩:=c1;clear hg1 hgn htr hst' jk1 hcl;go_wp2_with (refine vC rfl (.tmp 15) (.tmp 14) rfl rfl tb k u n rfl rfl c1 (ht1.O.frozen _) (λw3 hw3=>?_);refine aW ?_)
    unfold Hid;obtain⟨ht3,hg3⟩:=xA ht1.O k (.int .i64 n);rw[hset.O,hw3]at ht3
    rw[hw3]at hg3
    have jia:=ah ht3;have hg3':=ah (hg1'.O.grown hg3 (by intro he;injection he with he;exact n1 he.symm))
    have hst3:=ah (hst1.O.trans (Step.jR (ks:=λj=>j=gb\/j=tb) hg3 (λq hq=>by injection hq with hq;exact .inr hq.symm)))
    clear ht3 hg3 hw3 ht1 hg1' hst1 c1;go_wp2_with fail;go_roundw
    case rel=>exact⟨k+1,by omega,by omega,by go_num,hg3'.O,jia.O,hst3.O⟩
    case measure=>simp[RowKit.intOf];omega
   ·have hdr:l.drop k=[]:=wG (by omega)
    have jk1:=ah (show iV wr gb 176 [.string (pz [])]by rw[<- hdr];exact hgr.O)
    clear hgr hdr;go_wp2_with fail;refine(VU wr jk1.O).mono ?_
    rintro e W1 ⟨rfl,rfl⟩;go_wp2_with fail;exact⟨rfl,hst'.O,.inr ⟨by omega,rfl,_,by rw[aZ,fU,bT,fQ];omega,htr.O⟩⟩
  ·obtain rfl:k=m:=by omega
   go_wp2_with fail;go_end0
   exact⟨hst'.O,.inl ⟨hkl,rfl,hgr.O,htr.O⟩⟩
end Wh
