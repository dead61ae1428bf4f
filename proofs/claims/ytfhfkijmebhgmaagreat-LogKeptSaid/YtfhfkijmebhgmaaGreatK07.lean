/- Texts of the claim, joined. -/
import Derived.StillTail
import Derived.Laws.Tables
import Derived.Test.YtfhfkijmebhgmaaGreatK06
import Derived.Test.YtfhfkijmebhgmaaGreatK02
set_option maxHeartbeats 20000000
set_option maxRecDepth 100000
namespace Wh
open Go Go.RowKit Go.Proofs Tryz
structure SV where
 on:Value
 ak:Value
 aA:Value
 aF:Value
 gY:Value
 O:Value
 bg:Value
 rows:List Value
 aH:List Value
def SV.cells(V:SV):List Value:=[V.on,V.ak,V.aA,V.aF,V.gY,V.O,V.bg]
def SV.val(V:SV):Value:=.agg #[V.on,V.ak,V.aA,V.aF,V.gY,V.O,V.bg]
def mJ:Value:=.slice none 0 0
def SV.row(V:SV)(b:Nat):Value:=V.rows.getD b mJ
def SV.aG(V:SV)(o:Nat):Value:=V.aH.getD o mJ
def Nl(x:Int×Value):List Value:=[.int .i64 x.1,x.2]
def zI(l:List Order)(vs:List Value):List (Int×Value):=List.zipWith (λo u=>(o.dW,u)) l vs
def D6(vs:List Value):Prop:=vs.Pairwise λa b=>∀g,a.ownBlock=some g->b.ownBlock≠some g
structure dK(w:World)(aO:Nat)(V:SV)(s:aJ):Prop where
 on:Own (λu:Value=>[u]) 1 23 w aO V.on V.rows
 rlen:V.rows.length=s.on.length
 row:∀b,b<s.on.length->Own jJ 1 3 w aO (V.row b) (fO s.on b)
 ak:Own Nl 2 42 w aO V.ak (zI s.ak V.aH)
 llen:V.aH.length=s.ak.length
 aG:∀o,o<s.ak.length->Own kP 4 44 w aO (V.aG o) (s.aC o).aH
 aA:Own ig 4 46 w aO V.aA s.aA
 aF:Own nP 4 48 w aO V.aF s.aF
 gY:Own jJ 1 3 w aO V.gY s.gY
 O:Own jJ 1 3 w aO V.O s.O
 bg:Own jJ 1 3 w aO V.bg s.bg
 apart:D6 (V.rows++[V.gY,V.O,V.bg])
 yS:D6 V.aH
theorem uJ{l:List Order}{vs:List Value}(h:vs.length=l.length):(zI l vs).length=l.length:=by
 unfold zI;rw[CB];omega
theorem jbk{l:List Order}{vs:List Value}{i:Nat}(h:vs.length=l.length)(hi:i<l.length):(zI l vs)[i]?=some ((aU l i).dW,vs.getD i mJ):=by
 unfold zI;rw[qc,bf hi,bf (by omega),uy hi]
 simp[show i<vs.length by omega]
theorem jjQ{vs:List Value}(h:D6 vs){i j:Nat}(hi:i<vs.length)(hj:j<vs.length)(hne:i≠j){g:Nat}(hg:(vs.getD i mJ).ownBlock=some g):(vs.getD j mJ).ownBlock≠some g:=by
 have e1:vs.getD i mJ=vs[i]:=by simp[hi]
 have e2:vs.getD j mJ=vs[j]:=by simp[hj]
 rw[e1]at hg
 rw[e2];rcases Nat.lt_or_gt_of_ne hne with h1|h1
 ·exact iY.1 h i j hi hj h1 g hg
 ·intro he;exact iY.1 h j i hj hi h1 g he hg
theorem Lr{vs:List Value}(h:D6 vs){i j:Nat}(hi:i<vs.length)(hj:j<vs.length)(hne:i≠j):(vs.getD i mJ).ownBlock=none\/(vs.getD i mJ).ownBlock≠(vs.getD j mJ).ownBlock:=by
 cases hb:(vs.getD i mJ).ownBlock with
 |none=>exact .inl rfl
 |some g=>exact .inr λhe=>jjQ h hi hj hne hb he.symm
namespace dK
variable {w w':World} {aO:Nat} {V:SV} {s:aJ}
theorem below(h:dK w aO V s)(hb:Below w.heap.size w w'):dK w' aO V s:=
 ⟨h.on.below hb,h.rlen,λb hlt=>(h.row b hlt).below hb,h.ak.below hb,h.llen,λo ho=>(h.aG o ho).below hb,h.aA.below hb,h.aF.below hb,h.gY.below hb,h.O.below hb,h.bg.below hb,h.apart,h.yS⟩
theorem alloc(h:dK w aO V s)(o:Obj):dK (w.alloc o) aO V s:=h.below ((aj _ _).alloc (au _) _)
theorem drew(h:dK w aO V s):dK w.drew aO V s:=h.below (aj _ _).drew
theorem from_(h:dK w aO V s){base':Nat}(hb:base'<=aO):dK w base' V s:=
 ⟨h.on.from_ hb,h.rlen,λb hlt=>(h.row b hlt).from_ hb,h.ak.from_ hb,h.llen,λo ho=>(h.aG o ho).from_ hb,h.aA.from_ hb,h.aF.from_ hb,h.gY.from_ hb,h.O.from_ hb,h.bg.from_ hb,h.apart,h.yS⟩
theorem jhf(h:dK w aO V s){b:Nat}(hb:b<s.on.length):V.rows[b]?=some (V.row b):=by
 unfold SV.row;simp[show b<V.rows.length by rw[h.rlen];exact hb]
theorem je7(h:dK w aO V s){o:Nat}(ho:o<s.ak.length):V.aH[o]?=some (V.aG o):=by
 unfold SV.aG;simp[show o<V.aH.length by rw[h.llen];exact ho]
theorem view(h:dK w aO V s){p:dA}(hs:o9 p s):lK w w.heap.size V.val s:=by
 have h72:=su hs.aA;have h8:=hs.vJ;have h4:=hs.qH;have hc:=hs.counts;have hon:=hs.tY;obtain⟨A,c,hv,_,hA⟩:=h.on.sl (by rw[h.rlen];omega)
 obtain⟨A1,c1,hv1,_,hA1⟩:=h.ak.sl (by rw[uJ h.llen];omega)
 refine⟨_,_,_,_,_,_,_,rfl,⟨A,c,V.rows,by rw[hv,h.rlen],by omega,h.rlen,?_,λi x hi=>?_⟩,⟨A1,c1,V.aH,by rw[hv1,uJ h.llen],by omega,h.llen,?_,λi x hi=>?_⟩,h.aA.sl (by omega),h.aF.sl (by omega),h.gY.sl (by rw[hs.gY.1];omega),h.O.sl (by rw[hs.O.1];omega),h.bg.sl (by rw[hs.bg.1];omega)⟩
 ·have:V.rows.flatMap (λu=>[u])=V.rows:=by simp
  rw[this]at hA
  exact hA
 ·have hil:i<s.on.length:=(eF.1 hi).1
  have hx:fO s.on i=x:=by rw[xZ hil];exact(eF.1 hi).2
  exact⟨_,h.jhf hil,by rw[<- hx];exact(h.row i hil).sl (by rw[hs.rowLen (by omega)];omega)⟩
 ·have e:(s.ak.zip V.aH).flatMap (λx=>[Value.int .i64 x.1.dW,x.2])=(zI s.ak V.aH).flatMap Nl:=by
   unfold zI Nl;rw[Cj,wR,wR,wQ,wQ]
  rw[e];exact hA1
 ·have hil:i<s.ak.length:=(eF.1 hi).1
  have hx:s.aC i=x:=by unfold aJ.aC;rw[uy hil];exact(eF.1 hi).2
  have:=hs.tN hil;rw[hx]at this
  exact⟨_,h.je7 hil,by rw[<- hx];exact(h.aG i hil).sl (by rw[hx];omega)⟩
theorem jfc(V:SV):(V.rows++[V.gY,V.O,V.bg]).getD (V.rows.length+0) mJ=V.gY:=by simp
theorem jeW(V:SV):(V.rows++[V.gY,V.O,V.bg]).getD (V.rows.length+1) mJ=V.O:=by simp
theorem UY(V:SV):(V.rows++[V.gY,V.O,V.bg]).getD (V.rows.length+2) mJ=V.bg:=by simp
theorem Vm(V:SV){b:Nat}(hb:b<V.rows.length):(V.rows++[V.gY,V.O,V.bg]).getD b mJ=V.row b:=by
 unfold SV.row;simp[fE hb]
theorem lenV(V:SV):(V.rows++[V.gY,V.O,V.bg]).length=V.rows.length+3:=by simp
theorem jhH(h:dK w aO V s)(hb:Below w.heap.size w w'){v:Value}{l:List dZ}(hv:Own ig 4 46 w' aO v l):dK w' aO {V with aA:=v} {s with aA:=l}:=
 let k:=h.below hb
 ⟨k.on,k.rlen,k.row,k.ak,k.llen,k.aG,hv,k.aF,k.gY,k.O,k.bg,k.apart,k.yS⟩
theorem VJ(h:dK w aO V s)(hg:w.grownBy w' V.aF.ownBlock){v:Value}{l:List Move}(hv:Own nP 4 48 w' aO v l):dK w' aO {V with aF:=v} {s with aF:=l}:=
 ⟨h.on.kept hg (h.on.apart h.aF (by decide)),h.rlen,λb hb=>(h.row b hb).kept hg ((h.row b hb).apart h.aF (by decide)),h.ak.kept hg (h.ak.apart h.aF (by decide)),h.llen,λo ho=>(h.aG o ho).kept hg ((h.aG o ho).apart h.aF (by decide)),h.aA.kept hg (h.aA.apart h.aF (by decide)),hv,h.gY.kept hg (h.gY.apart h.aF (by decide)),h.O.kept hg (h.O.apart h.aF (by decide)),h.bg.kept hg (h.bg.apart h.aF (by decide)),h.apart,h.yS⟩
theorem U4(h:dK w aO V s)(hg:w.grownBy w' V.aA.ownBlock){v:Value}{l:List dZ}(hv:Own ig 4 46 w' aO v l):dK w' aO {V with aA:=v} {s with aA:=l}:=
 ⟨h.on.kept hg (h.on.apart h.aA (by decide)),h.rlen,λb hb=>(h.row b hb).kept hg ((h.row b hb).apart h.aA (by decide)),h.ak.kept hg (h.ak.apart h.aA (by decide)),h.llen,λo ho=>(h.aG o ho).kept hg ((h.aG o ho).apart h.aA (by decide)),hv,h.aF.kept hg (h.aF.apart h.aA (by decide)),h.gY.kept hg (h.gY.apart h.aA (by decide)),h.O.kept hg (h.O.apart h.aA (by decide)),h.bg.kept hg (h.bg.apart h.aA (by decide)),h.apart,h.yS⟩
theorem SE{s:aJ}{o o':Nat}{x:Order}(ho:o<s.ak.length):aU (s.ak.set o x) o'=if o'=o then x else s.aC o':=by
 unfold aJ.aC aU;by_cases h:o'=o
 ·subst h;simp[ho]
 ·rw[ay h];simp[zO h]
theorem jbj{l:List Order}{vs:List Value}{o:Nat}{x:Order}(hx:x.dW=(aU l o).dW):zI (l.set o x) vs=zI l vs:=by
 unfold zI;apply ni;intro i;rw[qc,qc,qo]
 by_cases h:o=i
 ·subst h;rw[aB rfl];by_cases hl:o<l.length
  ·rw[aB hl,bf hl]
   cases vs[o]? with
   |none=>rfl
   |some u=>
    simp only;rw[hx,uy hl]
  ·rw[ay hl,kZ (show l.length<=o by omega)]
 ·rw[ay h]
theorem lY(h:dK w aO V s){o k:Nat}(ho:o<s.ak.length)(hk:k<(s.aC o).aH.length){gl n c:Nat}(hv:V.aG o=.slice (some ⟨gl,0,none⟩) n c){j:Nat}(hj:j<4){y:Line}{u:Value}
  (hy:kP y=(kP (s.aG o k)).set j u):dK (w.setCell ⟨gl,k*4+j,none⟩ u) aO V (s.lY o k y)/\w.grownBy (w.setCell ⟨gl,k*4+j,none⟩ u) (some gl):=by
 have hl:=h.aG o ho;have hl':=hl;rw[hv]at hl'
 have hlk:s.aG o k=(s.aC o).aH[k]:=by unfold aJ.aG;rw[qw hk]
 obtain⟨o1,hg⟩:=hl'.store (λ_=>rfl) hk hj (y:=y) (u:=u) (by rw[hy,hlk])
 have hob:(V.aG o).ownBlock=some gl:=by rw[hv];rfl
 have hg':w.grownBy (w.setCell ⟨gl,k*4+j,none⟩ u) (V.aG o).ownBlock:=by rw[hob];exact hg
 have kD:(s.lY o k y).ak.length=s.ak.length:=by unfold aJ.lY;simp
 have hor:∀o',(s.lY o k y).aC o'=if o'=o then {s.aC o with aH:=(s.aC o).aH.set k y}else s.aC o':=λo'=>SE ho
 refine⟨⟨h.on.kept hg' (h.on.apart hl (by decide)),h.rlen,λb hb=>(h.row b hb).kept hg' ((h.row b hb).apart hl (by decide)),?_,by rw[kD];exact h.llen,λo' ho'=>?_,h.aA.kept hg' (h.aA.apart hl (by decide)),h.aF.kept hg' (h.aF.apart hl (by decide)),h.gY.kept hg' (h.gY.apart hl (by decide)),h.O.kept hg' (h.O.apart hl (by decide)),h.bg.kept hg' (h.bg.apart hl (by decide)),h.apart,h.yS⟩,hg⟩
 ·have e:zI (s.lY o k y).ak V.aH=zI s.ak V.aH:=jbj rfl;rw[e];exact h.ak.kept hg' (h.ak.apart hl (by decide))
 ·rw[kD]at ho'
  rw[hor];by_cases he:o'=o
  ·subst he;rw[aB rfl,hv];exact o1
  ·rw[ay he];exact(h.aG o' ho').kept hg' (Lr h.yS (by rw[h.llen];exact ho') (by rw[h.llen];exact ho) he)
theorem setKind(h:dK w aO V s){o:Nat}(ho:o<s.ak.length){go n c:Nat}(hv:V.ak=.slice (some ⟨go,0,none⟩) n c)(q:Int):
  dK (w.setCell ⟨go,o*2,none⟩ (.int .i64 q)) aO V {s with ak:=s.ak.set o {s.aC o with dW:=q}}/\w.grownBy (w.setCell ⟨go,o*2,none⟩ (.int .i64 q)) (some go):=by
 have hl:=h.ak;have hl':=hl;rw[hv]at hl'
 have hol:o<(zI s.ak V.aH).length:=by rw[uJ h.llen];exact ho
 have hget:(zI s.ak V.aH)[o]=((aU s.ak o).dW,V.aH.getD o mJ):=by
  have:=jbk h.llen ho;rw[bf hol]at this
  exact dQ this
 obtain⟨o1,hg⟩:=hl'.store (i:=o) (λ_=>rfl) hol (show 0<2 by omega) (y:=(q,V.aH.getD o mJ)) (u:=.int .i64 q) (by rw[hget];rfl)
 have hob:V.ak.ownBlock=some go:=by rw[hv];rfl
 rw[jB]at o1 hg
 have hg':w.grownBy (w.setCell ⟨go,o*2,none⟩ (.int .i64 q)) V.ak.ownBlock:=by rw[hob];exact hg
 have kD:(s.ak.set o {s.aC o with dW:=q}).length=s.ak.length:=by simp
 refine⟨⟨h.on.kept hg' (h.on.apart hl (by decide)),h.rlen,λb hb=>(h.row b hb).kept hg' ((h.row b hb).apart hl (by decide)),?_,by rw[kD];exact h.llen,λo' ho'=>?_,h.aA.kept hg' (h.aA.apart hl (by decide)),h.aF.kept hg' (h.aF.apart hl (by decide)),h.gY.kept hg' (h.gY.apart hl (by decide)),h.O.kept hg' (h.O.apart hl (by decide)),h.bg.kept hg' (h.bg.apart hl (by decide)),h.apart,h.yS⟩,hg⟩
 ·rw[hv];have e:zI (s.ak.set o {s.aC o with dW:=q}) V.aH=(zI s.ak V.aH).set o (q,V.aH.getD o mJ):=by
   unfold zI;apply ni;intro i;rw[qc,qo,qo,qc]
   by_cases he:o=i
   ·subst he;have hvl:o<V.aH.length:=by rw[h.llen];exact ho
    rw[aB rfl,aB ho,aB rfl,aB (by rw[CB];omega),bf hvl]
    simp[hvl]
   ·rw[ay he,ay he]
  show Own Nl 2 42 _ aO _ (zI (s.ak.set o {s.aC o with dW:=q}) V.aH)
  rw[e];exact o1
 ·rw[kD]at ho'
  have hor:aJ.aC {s with ak:=s.ak.set o {s.aC o with dW:=q}} o'=if o'=o then {s.aC o with dW:=q}else s.aC o':=SE ho
  rw[hor];have k1:=(h.aG o' ho').kept hg' ((h.aG o' ho').apart hl (by decide))
  by_cases he:o'=o
  ·subst he;rw[aB rfl];exact k1
  ·rw[ay he];exact k1
theorem Yv(h:dK w aO V s){b g:Nat}(hb:b<s.on.length)(hgl:g<(fO s.on b).length){gr n c:Nat}(hv:V.row b=.slice (some ⟨gr,0,none⟩) n c)(q:Int):
  dK (w.setCell ⟨gr,g,none⟩ (.int .i64 q)) aO V {s with on:=setCell s.on b g q}/\w.grownBy (w.setCell ⟨gr,g,none⟩ (.int .i64 q)) (some gr):=by
 have hl:=h.row b hb;have hl':=hl;rw[hv]at hl'
 obtain⟨o1,hg⟩:=hl'.store (i:=g) (λ_=>rfl) hgl (show 0<1 by omega) (y:=q) (u:=.int .i64 q) rfl
 rw[nC,jB]at o1 hg
 have hob:(V.row b).ownBlock=some gr:=by rw[hv];rfl
 have hg':w.grownBy (w.setCell ⟨gr,g,none⟩ (.int .i64 q)) (V.row b).ownBlock:=by rw[hob];exact hg
 have hbV:b<V.rows.length:=by rw[h.rlen];exact hb
 have key:∀i,i<V.rows.length+3->i≠b->((V.rows++[V.gY,V.O,V.bg]).getD i mJ).ownBlock=none\/((V.rows++[V.gY,V.O,V.bg]).getD i mJ).ownBlock≠(V.row b).ownBlock:=λi hi hne=>by
  have:=Lr h.apart (i:=i) (j:=b) (by rw[lenV];exact hi) (by rw[lenV];omega) hne
  rw[Vm V hbV]at this
  exact this
 refine⟨⟨h.on.kept hg' (h.on.apart hl (by decide)),by rw[qh];exact h.rlen,λi hi=>?_,h.ak.kept hg' (h.ak.apart hl (by decide)),h.llen,λo ho=>(h.aG o ho).kept hg' ((h.aG o ho).apart hl (by decide)),h.aA.kept hg' (h.aA.apart hl (by decide)),h.aF.kept hg' (h.aF.apart hl (by decide)),h.gY.kept hg' ?_,h.O.kept hg' ?_,h.bg.kept hg' ?_,h.apart,h.yS⟩,hg⟩
 ·rw[qh]at hi
  unfold Wh.setCell;rw[rowAt_set hb];by_cases he:i=b
  ·subst he;rw[aB rfl,hv];exact o1
  ·rw[ay he];have:=key i (by rw[h.rlen];omega) he
   rw[Vm V (by rw[h.rlen];exact hi)]at this
   exact(h.row i hi).kept hg' this
 ·have:=key (V.rows.length+0) (by omega) (by omega)
  rw[jfc]at this
  exact this
 ·have:=key (V.rows.length+1) (by omega) (by omega)
  rw[jeW]at this
  exact this
 ·have:=key (V.rows.length+2) (by omega) (by omega)
  rw[UY]at this
  exact this
theorem jg8(h:dK w aO V s){g:Nat}(hgl:g<s.gY.length){gr n c:Nat}(hv:V.gY=.slice (some ⟨gr,0,none⟩) n c)(q:Int):
  dK (w.setCell ⟨gr,g,none⟩ (.int .i64 q)) aO V {s with gY:=s.gY.set g q}/\w.grownBy (w.setCell ⟨gr,g,none⟩ (.int .i64 q)) (some gr):=by
 have hl:=h.gY;have hl':=hl;rw[hv]at hl'
 obtain⟨o1,hg⟩:=hl'.store (i:=g) (λ_=>rfl) hgl (show 0<1 by omega) (y:=q) (u:=.int .i64 q) rfl
 rw[nC,jB]at o1 hg
 have hob:V.gY.ownBlock=some gr:=by rw[hv];rfl
 have hg':w.grownBy (w.setCell ⟨gr,g,none⟩ (.int .i64 q)) V.gY.ownBlock:=by rw[hob];exact hg
 have key:∀i,i<V.rows.length+3->i≠V.rows.length+0->((V.rows++[V.gY,V.O,V.bg]).getD i mJ).ownBlock=none\/((V.rows++[V.gY,V.O,V.bg]).getD i mJ).ownBlock≠V.gY.ownBlock:=λi hi hne=>by
  have:=Lr h.apart (i:=i) (j:=V.rows.length+0) (by rw[lenV];exact hi) (by rw[lenV];omega) hne
  rw[jfc]at this
  exact this
 refine⟨⟨h.on.kept hg' (h.on.apart hl (by decide)),h.rlen,λi hi=>?_,h.ak.kept hg' (h.ak.apart hl (by decide)),h.llen,λo ho=>(h.aG o ho).kept hg' ((h.aG o ho).apart hl (by decide)),h.aA.kept hg' (h.aA.apart hl (by decide)),h.aF.kept hg' (h.aF.apart hl (by decide)),?_,?_,?_,h.apart,h.yS⟩,hg⟩
 ·have hi':i<s.on.length:=hi;have hr:=h.rlen;have:=key i (by omega) (by omega)
  rw[Vm V (by omega)]at this
  exact(h.row i hi).kept hg' this
 ·rw[hv];exact o1
 ·have:=key (V.rows.length+1) (by omega) (by omega)
  rw[jeW]at this
  exact h.O.kept hg' this
 ·have:=key (V.rows.length+2) (by omega) (by omega)
  rw[UY]at this
  exact h.bg.kept hg' this
theorem jmF(h:dK w aO V s){g:Nat}(hgl:g<s.O.length){gr n c:Nat}(hv:V.O=.slice (some ⟨gr,0,none⟩) n c)(q:Int):
  dK (w.setCell ⟨gr,g,none⟩ (.int .i64 q)) aO V {s with O:=s.O.set g q}/\w.grownBy (w.setCell ⟨gr,g,none⟩ (.int .i64 q)) (some gr):=by
 have hl:=h.O;have hl':=hl;rw[hv]at hl'
 obtain⟨o1,hg⟩:=hl'.store (i:=g) (λ_=>rfl) hgl (show 0<1 by omega) (y:=q) (u:=.int .i64 q) rfl
 rw[nC,jB]at o1 hg
 have hob:V.O.ownBlock=some gr:=by rw[hv];rfl
 have hg':w.grownBy (w.setCell ⟨gr,g,none⟩ (.int .i64 q)) V.O.ownBlock:=by rw[hob];exact hg
 have key:∀i,i<V.rows.length+3->i≠V.rows.length+1->((V.rows++[V.gY,V.O,V.bg]).getD i mJ).ownBlock=none\/((V.rows++[V.gY,V.O,V.bg]).getD i mJ).ownBlock≠V.O.ownBlock:=λi hi hne=>by
  have:=Lr h.apart (i:=i) (j:=V.rows.length+1) (by rw[lenV];exact hi) (by rw[lenV];omega) hne
  rw[jeW]at this
  exact this
 refine⟨⟨h.on.kept hg' (h.on.apart hl (by decide)),h.rlen,λi hi=>?_,h.ak.kept hg' (h.ak.apart hl (by decide)),h.llen,λo ho=>(h.aG o ho).kept hg' ((h.aG o ho).apart hl (by decide)),h.aA.kept hg' (h.aA.apart hl (by decide)),h.aF.kept hg' (h.aF.apart hl (by decide)),?_,?_,?_,h.apart,h.yS⟩,hg⟩
 ·have hi':i<s.on.length:=hi;have hr:=h.rlen;have:=key i (by omega) (by omega)
  rw[Vm V (by omega)]at this
  exact(h.row i hi).kept hg' this
 ·have:=key (V.rows.length+0) (by omega) (by omega)
  rw[jfc]at this
  exact h.gY.kept hg' this
 ·rw[hv];exact o1
 ·have:=key (V.rows.length+2) (by omega) (by omega)
  rw[UY]at this
  exact h.bg.kept hg' this
theorem jha(h:dK w aO V s){g:Nat}(hgl:g<s.bg.length){gr n c:Nat}(hv:V.bg=.slice (some ⟨gr,0,none⟩) n c)(q:Int):
  dK (w.setCell ⟨gr,g,none⟩ (.int .i64 q)) aO V {s with bg:=s.bg.set g q}/\w.grownBy (w.setCell ⟨gr,g,none⟩ (.int .i64 q)) (some gr):=by
 have hl:=h.bg;have hl':=hl;rw[hv]at hl'
 obtain⟨o1,hg⟩:=hl'.store (i:=g) (λ_=>rfl) hgl (show 0<1 by omega) (y:=q) (u:=.int .i64 q) rfl
 rw[nC,jB]at o1 hg
 have hob:V.bg.ownBlock=some gr:=by rw[hv];rfl
 have hg':w.grownBy (w.setCell ⟨gr,g,none⟩ (.int .i64 q)) V.bg.ownBlock:=by rw[hob];exact hg
 have key:∀i,i<V.rows.length+3->i≠V.rows.length+2->((V.rows++[V.gY,V.O,V.bg]).getD i mJ).ownBlock=none\/((V.rows++[V.gY,V.O,V.bg]).getD i mJ).ownBlock≠V.bg.ownBlock:=λi hi hne=>by
  have:=Lr h.apart (i:=i) (j:=V.rows.length+2) (by rw[lenV];exact hi) (by rw[lenV];omega) hne
  rw[UY]at this
  exact this
 refine⟨⟨h.on.kept hg' (h.on.apart hl (by decide)),h.rlen,λi hi=>?_,h.ak.kept hg' (h.ak.apart hl (by decide)),h.llen,λo ho=>(h.aG o ho).kept hg' ((h.aG o ho).apart hl (by decide)),h.aA.kept hg' (h.aA.apart hl (by decide)),h.aF.kept hg' (h.aF.apart hl (by decide)),?_,?_,?_,h.apart,h.yS⟩,hg⟩
 ·have hi':i<s.on.length:=hi;have hr:=h.rlen;have:=key i (by omega) (by omega)
  rw[Vm V (by omega)]at this
  exact(h.row i hi).kept hg' this
 ·have:=key (V.rows.length+0) (by omega) (by omega)
  rw[jfc]at this
  exact h.gY.kept hg' this
 ·have:=key (V.rows.length+1) (by omega) (by omega)
  rw[jeW]at this
  exact h.O.kept hg' this
 ·rw[hv];exact o1
end dK
end Wh
namespace Wh
open Go Go.RowKit
def zB(t:Array Value)(ds:List Nat)(f:Nat->Value):Array Value:=ds.foldl (λt d=>t.setIfInBounds d (f d)) t
def kG(a:Act)(l:List Oper)(f:Nat->Value):Act:={a with tmps:=zB a.tmps (l.filterMap (·.dst)) f}
def upd(f:Nat->Value)(d:Nat)(v:Value)(k:Nat):Value:=if k=d then v else f k
theorem zV(ds:List Nat)(f:Nat->Value):∀(t:Array Value) (k:Nat),(zB t ds f)[k]?=if k<t.size then(if k∈ds then some (f k)else t[k]?)else none:=by
 induction ds with
 |nil=>
  intro t k;show t[k]?=_;by_cases h:k<t.size
  ·simp[h]
  ·simp[h]
 |cons d ds ih=>
  intro t k;show(zB (t.setIfInBounds d (f d)) ds f)[k]?=_;rw[ih,uM,xG]
  by_cases h:k<t.size
  ·by_cases hk:k∈ds
   ·simp[h,hk]
   ·by_cases hd:d=k
    ·subst hd;simp[h,hk]
    ·have hd':¬k=d:=λe=>hd e.symm
     simp[h,hk,hd,hd']
  ·simp[h]
theorem Pj{t:Array Value}{ds:List Nat}{f:Nat->Value}{d:Nat}(hd:d∈ds)(v:Value):(zB t ds f).setIfInBounds d v=zB t ds (upd f d v):=by
 apply nO;intro k;rw[xG,zV,zV]
 have hs:(zB t ds f).size=t.size:=by
  unfold zB;induction ds generalizing t with
  |nil=>rfl
  |cons e ds ih=>
   by_cases h:d∈ds
   ·rw[fB,ih h,uM]
   ·have aux:∀(ds:List Nat) (t:Array Value),(ds.foldl (λt d=>t.setIfInBounds d (f d)) t).size=t.size:=by
     intro ds;induction ds with
     |nil=>intro t;rfl
     |cons x xs ihx=>intro t;rw[fB,ihx,uM]
    exact aux _ _
 rw[hs];unfold upd;by_cases h:k<t.size
 ·by_cases hk:d=k
  ·subst hk;simp[h,hd]
  ·have hk':¬k=d:=λe=>hk e.symm
   simp[h,hk,hk']
 ·by_cases hk:d=k
  ·subst hk;simp[h]
  ·simp[h,hk]
theorem MJ(t:Array Value)(ds:List Nat):zB t ds (λd=>t.getD d undef)=t:=by
 apply nO;intro k;rw[zV];by_cases h:k<t.size
 ·by_cases hk:k∈ds<;>simp[h,hk,Array.getD]
 ·simp[h]
inductive JD(l:List Oper):Nat->Nat->Prop
 |self (i:Nat):JD l i i
 |dP {j k i:Nat} {o:Oper} {e:Edge}:l[i]?=some o->e∈o.after->Region.binds .any e=true->e.on=k->JD l j k->JD l j i
def qI(f:Nat->Value)(d:Option Nat)(v:Value):Nat->Value:=match d with|some d=>upd f d v|none=>f
def Iz(n:Nat)(R:Nat->(Nat->Value)->World->Prop)(f:Nat->Value)(w:World)(o:Oper):Prop:=
 ∀e∈o.after,Region.binds .any e=true->e.on<n->R e.on f w
def RY(P:Program)(l:List Oper)(n:Nat)(R:Nat->(Nat->Value)->World->Prop)(Q:Exit->Act->World->Prop)(a:Act)(w:World)(i:Nat)(o:Oper):Prop:=
 ∀f w',Below w.heap.size w w'->Iz n R f w' o->o.wp P (kG a (l.take n) f) w' (λa' w''=>∃v,a'=(kG a (l.take n) f).put o.dst v/\R i (qI f o.dst v) w''/\Below w'.heap.size w' w'') Q
def Jy(P:Program)(l:List Oper)(n:Nat)(R:Nat->(Nat->Value)->World->Prop)(Q:Exit->Act->World->Prop)(a:Act)(w:World):Nat->List Oper->Prop
 |_,[]=>True
 |i,o::r=>RY P l n R Q a w i o/\Jy P l n R Q a w (i+1) r
theorem Jy.at{P:Program}{l:List Oper}{n:Nat}{R:Nat->(Nat->Value)->World->Prop}{Q:Exit->Act->World->Prop}{a:Act}{w:World}:∀ {r:List Oper} {k:Nat},Jy P l n R Q a w k r->∀ {j:Nat} {o:Oper},r[j]?=some o->RY P l n R Q a w (k+j) o
 |[],_,_,_,_,h=>by simp at h
 |x::r,k,h,0,o,hj=>by
  simp at hj
  subst hj;exact h.1
 |x::r,k,h,j+1,o,hj=>by
  have:=Jy.at h.2 (j:=j) (o:=o) (by simpa using hj)
  rwa [show k+1+j=k+(j+1)by omega]at this
def KU(m n:Nat):Array Bool:=Array.replicate n true++Array.replicate (m - n) false
def G5(l:List Oper)(n:Nat):Bool:=
 (decide (n=l.length)||(decide (n<l.length)&&Region.sinkB .any l.toArray n&&Region.chainB .any l.toArray n))&&Region.seqB .any l.toArray (l.length - n) n (KU l.length n)&&
 (l.take n).all (λo=>o.guard.isNone)&&decide ((l.take n).filterMap (·.dst)).Nodup&&(List.range n).all λi=>((l[i]?).map λo=>o.after.all λe=>!Region.binds .any e||decide (e.on<i)).getD true
def Sj(dJ:Array Bool)(n:Nat):Nat:=(List.range n).countP λi=>!dJ.getD i true
theorem BK{dJ:Array Bool}{i:Nat}(d:Bool)(hs:i<dJ.size):(dJ.setIfInBounds i true).getD i d=true:=by simp[Array.getD,hs]
theorem II{dJ:Array Bool}{i:Nat}(hi:dJ.getD i true=false):i<dJ.size:=by
 rcases rO i dJ.size with h|h
 ·exact h
 ·simp[fZ h]at hi
theorem UK{dJ:Array Bool}{i:Nat}(hi:dJ.getD i true=false):∀n,Sj (dJ.setIfInBounds i true) n+(if i<n then 1 else 0)=Sj dJ n:=by
 have hs:=II hi;intro n;induction n with
 |zero=>simp[Sj]
 |succ n ih=>
  unfold Sj at ih ⊢
  rw[lJ,pG,pG];by_cases h:i=n
  ·subst h;rw[ay (by omega)]at ih
   rw[aB (by omega)]
   simp only[Bl,hi,BK true hs,wH,rX,iE,uf,uH];omega
  ·have e:(List.countP (λj=>!(dJ.setIfInBounds i true).getD j true) [n])=List.countP (λj=>!dJ.getD j true) [n]:=by
    simp only[Bl,kT true h]
   rw[e];by_cases hlt:i<n
   ·rw[aB hlt]at ih
    rw[aB (by omega)]
    omega
   ·rw[ay hlt]at ih
    rw[ay (by omega)]
    omega
theorem D9{dJ:Array Bool}{n:Nat}(h:Sj dJ n=0){i:Nat}(hi:i<n):dJ.getD i true=true:=by
 unfold Sj at h
 rw[List.countP_eq_zero]at h
 have:=h i (gZ.2 hi);simpa using this
theorem UL{dJ:Array Bool}{n:Nat}(h:0<Sj dJ n):∃i,i<n/\dJ.getD i true=false:=by
 unfold Sj at h
 rw[List.countP_pos_iff]at h
 obtain⟨i,hi,hp⟩:=h;exact⟨i,gZ.1 hi,by simpa using hp⟩
section
variable {P:Program} {l:List Oper} {n:Nat} {R:Nat→(Nat→Value)→World→Prop} {Q:Exit→Act→World→Prop} {a:Act} {w:World}
theorem Eo{i d:Nat}{o:Oper}(hi:l[i]?=some o)(hin:i<n)(hd:o.dst=some d):d∈(l.take n).filterMap (·.dst):=by
 rw[List.mem_filterMap];refine⟨o,?_,hd⟩
 rw[pW];exact⟨i,by rw[gJ];simp[hin,hi]⟩
theorem jat{i j d d':Nat}{o o':Oper}(hn:((l.take n).filterMap (·.dst)).Nodup)(hi:l[i]?=some o)(hin:i<n)(hd:o.dst=some d)(hj:l[j]?=some o')(hjn:j<n)(hd':o'.dst=some d')(hne:i≠j):d≠d':=by
 intro e;subst e;have key:∀(l:List Oper),(l.filterMap (·.dst)).Nodup->∀(i j:Nat) (o o':Oper),l[i]?=some o->l[j]?=some o'->o.dst=some d->o'.dst=some d->i<j->False:=by
  intro l;induction l with
  |nil=>intro _ i j o o' h;simp at h
  |cons x l ih=>
   intro hn i j o o' hi hj hd hd' hlt;have hnl:(l.filterMap (·.dst)).Nodup:=by
    cases hx:x.dst with
    |none=>rw[List.filterMap_cons_none hx]at hn;exact hn
    |some y=>rw[zL hx]at hn;exact(uh.1 hn).2
   cases i with
   |zero=>
    simp at hi
    subst hi;rw[zL hd]at hn
    obtain⟨j,rfl⟩:∃k,j=k+1:=⟨j - 1,by omega⟩
    refine(uh.1 hn).1 ?_
    rw[List.mem_filterMap];exact⟨o',tC (by simpa using hj),hd'⟩
   |succ i=>
    obtain⟨j,rfl⟩:∃k,j=k+1:=⟨j - 1,by omega⟩
    exact ih hnl i j o o' (by simpa using hi) (by simpa using hj) hd hd' (by omega)
 have hi':(l.take n)[i]?=some o:=by rw[gJ];simp[hin,hi]
 have hj':(l.take n)[j]?=some o':=by rw[gJ];simp[hjn,hj]
 rcases Nat.lt_or_gt_of_ne hne with h|h
 ·exact key _ hn i j o o' hi' hj' hd hd' h
 ·exact key _ hn j i o' o hj' hi' hd' hd h
theorem jeS(hle:n<=l.length)(NU:∀dJ,HeadInv .any l.toArray n dJ->∀i,i<n->dJ.getD i true=false->∀t,n<=t->t ∉ Region.ready .any l.toArray dJ)(hseq:Region.seqB .any l.toArray (l.length - n) n (KU l.length n)=true)
  (hg:∀i o,i<n->l[i]?=some o->o.guard=none) (hnd:((l.take n).filterMap (·.dst)).Nodup) (yw:∀i o,i<n->l[i]?=some o->∀e∈o.after,Region.binds .any e=true->e.on<i)
  (hst:∀i g w1 w2,R i g w1->Below w1.heap.size w1 w2->R i g w2) (yg:∀i g g' w,(∀j o d,JD l j i->l[j]?=some o->o.dst=some d->g d=g' d)->R i g w->R i g' w) (AV:Jy P l n R Q a w 0 (l.take n))
  (hend:∀f w',Below w.heap.size w w'->(∀i,i<n->R i f w')->wpList P l.toArray Q (l.drop n) (kG a (l.take n) f) w'):
  ∀(k:Nat) (dJ:Array Bool) (f:Nat->Value) (w':World),HeadInv .any l.toArray n dJ->Sj dJ n=k->Below w.heap.size w w'->(∀i,i<n->dJ.getD i false=true->R i f w')->
   wpAny P .any l.toArray Q (k+(l.length - n)) dJ (kG a (l.take n) f) w'
 |0,dJ,f,w',inv,hk,hb,hR=>by
  have hsz:dJ.size=l.length:=by rw[inv.size];simp
  have he:dJ=KU l.length n:=by
   apply nO;intro i;unfold KU;rw[sH]
   simp only[tK];by_cases hi:i<n
   ·rw[aB hi];have h1:=D9 hk hi;have h2:i<dJ.size:=by omega
    simp[hi,h2,Array.getD]at h1 ⊢
    exact h1
   ·rw[ay hi];by_cases hl:i<l.length
    ·have h1:=inv.tail i (by omega) (by simpa using hl)
     have h2:i<dJ.size:=by omega
     have h3:i - n<l.length - n:=by omega
     simp[h2,h3,Array.getD]at h1 ⊢
     exact h1
    ·rw[fZ (by omega),fZ (by simp;omega)]
  have hd:l.length - n=(l.drop n).length:=by simp
  rw[eY,hd];refine wpAny_of_seq (l.drop n) n dJ _ w' (λj=>by simp) (by rw[he,<- hd];exact hseq) (hend f w' hb λi hin=>hR i hin ?_)
  have h1:=D9 hk hin;have h2:i<dJ.size:=by omega
  simp[h2,Array.getD]at h1 ⊢
  exact h1
 |k+1,dJ,f,w',inv,hk,hb,hR=>by
  have hsz:dJ.size=l.length:=by rw[inv.size];simp
  obtain⟨i0,hi0,hu0⟩:=UL (show 0<Sj dJ n by omega)
  have hne:∀i,i<n->dJ.getD i true=false->Region.ready .any l.toArray dJ≠[]:=by
   intro i;induction i using Nat.strongRecOn with
   |_ i ih=>
    intro hin hu;have hil:i<l.length:=by omega
    by_cases kE:∀e∈(l[i]).after,Region.binds .any e=true->dJ.getD e.on false=true
    ·have:i∈Region.ready .any l.toArray dJ:=nR.2 ⟨hu,l[i],by simp[hil],kE⟩
     intro h0;rw[h0]at this
     cases this
    ·simp only[tJ]at kE
     obtain⟨e,he,hbd,hno⟩:=kE;have hlt:=yw i l[i] hin (by simp[hil]) e he hbd
     exact ih e.on hlt (by omega) (getD_in (by omega) (by simpa using hno))
  rw[show k+1+(l.length - n)=(k+(l.length - n))+1 by omega]
  refine⟨λh0=>absurd h0 (hne i0 hi0 hu0),λi hi=>?_⟩
  have hin:i<n:=by
   rcases rO i n with h|h
   ·exact h
   ·exact absurd hi (NU dJ inv i0 hi0 hu0 i h)
  obtain⟨hu,o,ho,kE⟩:=nR.1 hi;have ho':l[i]?=some o:=by simpa using ho
  have hgd:=hg i o hin ho';have FB:=AV.at (j:=i) (o:=o) (by rw[gJ];simp[hin,ho'])
  rw[eY]at FB
  have h1:=FB f w' hb λe he hbd hen=>hR e.on hen (kE e he hbd)
  unfold wpOp;simp only[ho];rw[aB (by simp[Region.wanted,hgd])]
  refine .inl (oD ?_ h1)
  rintro a' w'' ⟨v,rfl,hv,hbw⟩;have hcount:Sj (dJ.setIfInBounds i true) n=k:=by
   have:=UK hu n;rw[aB hin]at this
   omega
  have hb2:=hb.trans (hbw.mono hb.size);have MG:∀j k,JD l j k->k<n->dJ.getD k false=true->j<n/\dJ.getD j false=true:=by
   intro j k h;induction h with
   |self=>exact λh1 h2=>⟨h1,h2⟩
   |dP ho he hbd hon _ ih=>
    intro h1 h2;subst hon;have:=yw _ _ h1 ho _ he hbd;exact ih (by omega) (inv.closed _ _ (by simpa using ho) h2 _ he hbd)
  have bK:(kG a (l.take n) f).put o.dst v=kG a (l.take n) (qI f o.dst v):=by
   cases hdst:o.dst with
   |none=>rfl
   |some d0=>
    unfold kG Act.put qI;simp only;rw[Pj (Eo ho' hin hdst)]
  rw[bK];refine jeS hle NU hseq hg hnd yw hst yg AV hend k _ (qI f o.dst v) w'' (inv.set hi hin) hcount hb2 λj hjn hl=>?_
  by_cases hij:i=j
  ·subst hij;exact hv
  ·rw[kT false hij]at hl
   refine yg j f _ _ (λj' oj d haj hoj hd=>?_) (hst _ _ _ _ (hR j hjn hl) hbw)
   obtain⟨jd2,Wu⟩:=MG _ _ haj hjn hl;cases hdst:o.dst with
   |none=>rfl
   |some d0=>
    have hne:i≠j':=λe=>by
     subst e;rw[getD_both hu]at Wu
     cases Wu
    have hdd:=jat hnd ho' hin hdst hoj jd2 hd hne;unfold qI upd;simp only;rw[ay (λe=>hdd e.symm)]
theorem jlF(n:Nat)(R:Nat->(Nat->Value)->World->Prop)(hB:G5 l n=true)(hst:∀i g w1 w2,R i g w1->Below w1.heap.size w1 w2->R i g w2)
  (yg:∀i g g' w,(∀j o d,JD l j i->l[j]?=some o->o.dst=some d->g d=g' d)->R i g w->R i g' w) (AV:Jy P l n R Q a w 0 (l.take n))
  (hend:∀f w',Below w.heap.size w w'->(∀i,i<n->R i f w')->wpList P l.toArray Q (l.drop n) (kG a (l.take n) f) w'):wpAny P .any l.toArray Q l.toArray.size (Array.replicate l.toArray.size false) a w.drew:=by
 simp only[G5,bG,fV,bD,aX]at hB
 obtain⟨⟨⟨⟨hw,hseq⟩,hg⟩,hnd⟩,yw⟩:=hB;have hle:n<=l.length:=by rcases hw with h|h<;>omega
 have hat:∀i o,i<n->l[i]?=some o->o∈l.take n:=λi o hin hi=>by
  rw[pW];exact⟨i,by rw[gJ];simp[hin,hi]⟩
 have H:=jeS (P:=P) (Q:=Q) (a:=a) (w:=w) hle ?_ hseq (λi o hin hi=>by simpa using hg o (hat i o hin hi)) hnd ?_ hst yg AV hend n (Array.replicate l.toArray.size false) (λd=>a.tmps.getD d undef) w.drew
  ⟨by simp,λj oj _ hl=>(by rw[getD_replicate_false]at hl;cases hl),λt _ ht=>getD_in (by simpa using ht) (getD_replicate_false _ _)⟩ ?_ (aj _ _).drew (λi _ hl=>by rw[getD_replicate_false]at hl;cases hl)
 ·have e:kG a (l.take n) (λd=>a.tmps.getD d undef)=a:=by
   unfold kG;rw[MJ]
  rw[e]at H
  have hs:n+(l.length - n)=l.toArray.size:=by simp;omega
  rw[hs]at H
  exact H
 ·intro dJ inv i hin hu t ht hr;rcases hw with h|⟨⟨h1,h2⟩,h3⟩
  ·obtain⟨_,o,ho,_⟩:=nR.1 hr;have:=(bJ.1 ho).1
   simp at this
   omega
  ·exact tail_waits h2 h3 (by simpa using h1) inv (n - i) i rfl hin hu t ht hr
 ·intro i o hin hi e he hbd;have:=yw i (gZ.2 hin);rw[hi]at this
  simp only[iH,jl,iU,fV,kS,bD]at this
  rcases this e he with h|h
  ·rw[h]at hbd;cases hbd
  ·exact h
 ·have key:∀m,m<=l.length->Sj (Array.replicate l.toArray.size false) m=m:=by
   intro m;induction m with
   |zero=>intro _;rfl
   |succ m ih=>
    intro hm;have:=ih (by omega)
    unfold Sj at this ⊢
    have hml:m<l.length:=by omega
    rw[lJ,pG,this];simp[hml]
  exact key n hle
def UZ(g:Nat->Value):Operand->Value
 | .tmp t=>g t
 | .const v=>v
 | .global b=>.pointer (some ⟨b,0,none⟩)
 | .func f=>.func (.func f) #[] #[]
theorem RJ(a:Act):a.eval=UZ (λd=>a.tmps.getD d undef):=by
 funext x
 cases x<;>rfl
def iT(P:Program)(o:Oper)(ev:Operand->Value)(w:World)(K:Value->World->Prop):Prop:=
 match(execOp ev o).run P w with
 | .ok (.value v) w'=>K v w'
 | .ok .skip w'=>K undef w'
 | .ok (.enter f args) w'=>Calls P f args w' λe w''=>∃v,e=.returned v/\K v w''
 |_=>False
theorem iT.wp{P:Program}{o:Oper}{a:Act}{w:World}{K:Value->World->Prop}{Q:Exit->Act->World->Prop}(h:iT P o a.eval w K):o.wp P a w (λa' w'=>∃v,a'=a.put o.dst v/\K v w') Q:=by
 unfold iT at h
 unfold Oper.wp;generalize (execOp a.eval o).run P w=r at*
 cases r with
 |ok n w'=>
  cases n<;>simp only[Oper.upon]at h ⊢
  case value v=>exact⟨v,rfl,h⟩
  case skip=>exact⟨undef,rfl,h⟩
  case enter f args=>
   refine h.mono ?_
   rintro e w'' ⟨v,rfl,hk⟩;exact⟨v,rfl,hk⟩
  all_goals exact h.elim
 |halt x w'=>exact(h:False).elim
theorem RY.of{i:Nat}{o:Oper}(_hin:l[i]?=some o)(hi:i<n)(hB:G5 l n=true)(hsz:((l.take n).filterMap (·.dst)).all (λd=>decide (d<a.tmps.size))=true)
  (yg:∀i g g' w,(∀j o d,JD l j i->l[j]?=some o->o.dst=some d->g d=g' d)->R i g w->R i g' w)
  (h:∀(g:Nat->Value) w',Below w.heap.size w w'->(∀d,((l.take n).filterMap (·.dst)).contains d=false->g d=a.tmps.getD d undef)->Iz n R g w' o->iT P o (UZ g) w' λv w''=>R i (qI g o.dst v) w''/\Below w'.heap.size w' w''):
  RY P l n R Q a w i o:=by
 simp only[G5,bG,fV,bD,aX]at hB
 obtain⟨_,yw⟩:=hB;have QD:∀k oe,k<n->l[k]?=some oe->∀e∈oe.after,Region.binds .any e=true->e.on<k:=λk oe hk hoe e he hbd=>by
  have:=yw k (gZ.2 hk);rw[hoe]at this
  simp only[iH,jl,iU,fV,kS,bD]at this
  rcases this e he with h|h
  ·rw[h]at hbd;cases hbd
  ·exact h
 have MG:∀j k,JD l j k->k<n->j<n:=by
  intro j k h;induction h with
  |self=>exact id
  |dP ho he hbd hon _ ih=>
   intro h1;subst hon;have:=QD _ _ h1 ho _ he hbd;exact ih (by omega)
 have hsz':∀d∈(l.take n).filterMap (·.dst),d<a.tmps.size:=λd hd=>by
  have:=aX.1 hsz d hd;simpa using this
 intro f w' hb hd;have hg:∀d∈(l.take n).filterMap (·.dst),(kG a (l.take n) f).tmps.getD d undef=f d:=λd hd=>by
  have h1:=zV ((l.take n).filterMap (·.dst)) f a.tmps d
  rw[aB (hsz' d hd),aB hd]at h1
  unfold kG;simp only[ji,h1,jl]
 have ho:∀d,((l.take n).filterMap (·.dst)).contains d=false->(kG a (l.take n) f).tmps.getD d undef=a.tmps.getD d undef:=λd hd=>by
  have h1:=zV ((l.take n).filterMap (·.dst)) f a.tmps d
  have h2:d ∉ (l.take n).filterMap (·.dst):=by simpa using hd
  rw[ay h2]at h1
  unfold kG;simp only[ji,h1];by_cases hl:d<a.tmps.size
  ·rw[aB hl]
  ·rw[ay hl,fZ (qK hl)]
 have key:=h (λd=>(kG a (l.take n) f).tmps.getD d undef) w' hb ho (λe he hbd hen=>yg e.on f _ _ (λj oj d haj hoj hdj=>(hg d (Eo hoj (MG _ _ haj hen) hdj)).symm) (hd e he hbd hen))
 rw[<- RJ]at key
 refine oD ?_ key.wp
 rintro a' w'' ⟨v,rfl,hr,hbw⟩;refine⟨v,rfl,yg i _ _ _ (λj oj d haj hoj hdj=>?_) hr,hbw⟩
 have hjn:=MG _ _ haj hi;have hmem:=Eo hoj hjn hdj;cases hdst:o.dst with
 |none=>exact hg d hmem
 |some d0=>
  unfold qI upd;simp only;split
  ·rfl
  ·exact hg d hmem
abbrev vV:=(Nat->Value)->World->Prop
def atR(Rs:List vV)(i:Nat):vV:=Rs.getD i (λ_ _=>True)
def TA:List vV->(Nat->Value)->World->Prop
 |[],_,_=>True
 |p::r,g,w=>p g w/\TA r g w
def iR(P:Program)(l:List Oper)(n:Nat)(Rs:List vV)(a:Act)(w:World)(i:Nat)(o:Oper)(p:vV):Prop:=
 (∀g w1 w2,p g w1->Below w1.heap.size w1 w2->p g w2)/\(∀g g' w,(∀j o d,JD l j i->l[j]?=some o->o.dst=some d->g d=g' d)->p g w->p g' w)/\
 ∀g w',Below w.heap.size w w'->(∀d,((l.take n).filterMap (·.dst)).contains d=false->g d=a.tmps.getD d undef)->Iz n (atR Rs) g w' o->iT P o (UZ g) w' λv w''=>p (qI g o.dst v) w''/\Below w'.heap.size w' w''
def dX(P:Program)(l:List Oper)(n:Nat)(Rs:List vV)(a:Act)(w:World):Nat->List Oper->List vV->Prop
 |_,[],_=>True
 |_,_::_,[]=>False
 |i,o::r,p::ps=>iR P l n Rs a w i o p/\dX P l n Rs a w (i+1) r ps
theorem dX.at{Rs:List vV}:∀ {r:List Oper} {ps:List vV} {k:Nat},dX P l n Rs a w k r ps->∀ {j:Nat} {o:Oper},r[j]?=some o->iR P l n Rs a w (k+j) o (ps.getD j (λ_ _=>True))
 |[],_,_,_,_,_,h=>by simp at h
 |_::_,[],_,h,_,_,_=>h.elim
 |x::r,p::ps,k,h,0,o,hj=>by
  simp at hj
  subst hj;exact h.1
 |x::r,p::ps,k,h,j+1,o,hj=>by
  have:=dX.at h.2 (j:=j) (o:=o) (by simpa using hj)
  rw[show k+1+j=k+(j+1)by omega]at this
  simpa using this
theorem TA.of{Rs:List vV}{g:Nat->Value}{w:World}(h:∀i,i<Rs.length->atR Rs i g w):TA Rs g w:=by
 induction Rs with
 |nil=>trivial
 |cons p r ih=>exact⟨h 0 (by simp),ih λi hi=>h (i+1) (by simp;omega)⟩
theorem jfx(n:Nat)(Rs:List vV)(hB:G5 l n=true)(hn:Rs.length=n)(hsz:((l.take n).filterMap (·.dst)).all (λd=>decide (d<a.tmps.size))=true)
  (hops:dX P l n Rs a w 0 (l.take n) Rs) (hend:∀f w',Below w.heap.size w w'->TA Rs f w'->wpList P l.toArray Q (l.drop n) (kG a (l.take n) f) w'):wpAny P .any l.toArray Q l.toArray.size (Array.replicate l.toArray.size false) a w.drew:=by
 have hle:n<=l.length:=by
  have:=hB;simp only[G5,bG,fV,bD]at this
  rcases this.1.1.1.1 with h|h<;>omega
 have hat:∀i,i<n->∃o,l[i]?=some o/\iR P l n Rs a w i o (atR Rs i):=λi hi=>by
  have hil:i<l.length:=by omega
  refine⟨l[i],by simp[hil],?_⟩
  have:=hops.at (j:=i) (o:=l[i]) (by rw[gJ];simp[hi,hil])
  rwa [eY]at this
 have hst:∀i g w1 w2,atR Rs i g w1->Below w1.heap.size w1 w2->atR Rs i g w2:=λi g w1 w2 h hb=>by
  by_cases hi:i<n
  ·obtain⟨o,_,h1,_⟩:=hat i hi;exact h1 g w1 w2 h hb
  ·unfold atR;rw[dU,kZ (by omega)]
   trivial
 have yg:∀i g g' w,(∀j o d,JD l j i->l[j]?=some o->o.dst=some d->g d=g' d)->atR Rs i g w->atR Rs i g' w:=λi g g' w1 he h=>by
  by_cases hi:i<n
  ·obtain⟨o,_,_,h2,_⟩:=hat i hi;exact h2 g g' w1 he h
  ·unfold atR;rw[dU,kZ (by omega)]
   trivial
 refine jlF n (atR Rs) hB hst yg ?_ (λf w' hb hR=>hend f w' hb (TA.of λi hi=>hR i (by omega)))
 have key:∀(r:List Oper) (k:Nat),(∀j o,r[j]?=some o->k+j<n/\l[k+j]?=some o)->Jy P l n (atR Rs) Q a w k r:=by
  intro r;induction r with
  |nil=>intro _ _;trivial
  |cons x r ih=>
   intro k h;obtain⟨hk,hx⟩:=h 0 x (by simp)
   rw[jB]at hk hx
   obtain⟨o,ho,_,_,h3⟩:=hat k hk;rw[hx]at ho
   injection ho with ho
   subst ho;exact⟨RY.of hx hk hB hsz yg h3,ih (k+1) λj o hj=>by
    have:=h (j+1) o (by simpa using hj)
    rwa [show k+(j+1)=k+1+j by omega]at this⟩
 exact key _ 0 λj o hj=>by
  rw[gJ]at hj
  by_cases h:j<n
  ·rw[aB h]at hj
   exact⟨by omega,by simpa using hj⟩
  ·rw[ay h]at hj
   cases hj
theorem qZ(n:Nat)(Rs:List vV){id:Nat}(hm:P.follows .mixedOrders=true)(hB:G5 l n=true)(hn:Rs.length=n)(hsz:((l.take n).filterMap (·.dst)).all (λd=>decide (d<a.tmps.size))=true)
  (hops:dX P l n Rs a w 0 (l.take n) Rs) (hend:∀f w',Below w.heap.size w w'->TA Rs f w'->wpList P l.toArray Q (l.drop n) (kG a (l.take n) f) w'):(Code.region id l.toArray true).wp P Q a w:=
 zh hm (jfx n Rs hB hn hsz hops hend)
theorem dX.nil{Rs:List vV}{i:Nat}{ps:List vV}:dX P l n Rs a w i [] ps:=by cases ps<;>trivial
theorem dX.cons{Rs:List vV}{i:Nat}{o:Oper}{r:List Oper}{p:vV}{ps:List vV}(h:iR P l n Rs a w i o p)(h':dX P l n Rs a w (i+1) r ps):dX P l n Rs a w i (o::r) (p::ps):=⟨h,h'⟩
theorem iR.val{Rs:List vV}{i d:Nat}{o:Oper}{c:Value}(hi:l[i]?=some o)(ho:o.dst=some d)
  (h:∀g w',Below w.heap.size w w'->(∀d,((l.take n).filterMap (·.dst)).contains d=false->g d=a.tmps.getD d undef)->Iz n (atR Rs) g w' o->(execOp (UZ g) o).run P w'=.ok (.value c) w'):
  iR P l n Rs a w i o (λg _=>g d=c):=by
 refine⟨λ_ _ _ h _=>h,λg g' _ he h=>(he i o d (JD.self i) hi ho).symm.trans h,λg w' hb hout hd=>?_⟩
 unfold iT;rw[h g w' hb hout hd];refine⟨?_,aj _ _⟩
 rw[ho];unfold qI upd;simp
theorem iR.one{Rs:List vV}{i d:Nat}{o:Oper}{p:Value->World->Prop}(hi:l[i]?=some o)(ho:o.dst=some d)(hst:∀v w1 w2,p v w1->Below w1.heap.size w1 w2->p v w2)
  (h:∀g w',Below w.heap.size w w'->(∀d,((l.take n).filterMap (·.dst)).contains d=false->g d=a.tmps.getD d undef)->Iz n (atR Rs) g w' o->iT P o (UZ g) w' λv w''=>p v w''/\Below w'.heap.size w' w''):
  iR P l n Rs a w i o (λg w=>p (g d) w):=by
 refine⟨λg w1 w2 h hb=>hst _ _ _ h hb,λg g' w1 he h=>?_,λg w' hb hout hd=>?_⟩
 ·show p (g' d) w1;rw[<- he i o d (JD.self i) hi ho];exact h
 ·have:=h g w' hb hout hd;rw[ho];have e:∀v,qI g (some d) v d=v:=λv=>by unfold qI upd;simp
  simpa only[e]using this
theorem jW(g:Nat->Value)(t:Nat):UZ g (.tmp t)=g t:=rfl
theorem jm(g:Nat->Value)(v:Value):UZ g (.const v)=v:=rfl
theorem kC(g:Nat->Value)(f:FuncId):UZ g (.func f)=.func (.func f) #[] #[]:=rfl
end
end Wh
namespace Wh
open Go Go.RowKit Go.Proofs Tryz
def jk(w:World)(b:Nat)(V:SV):Prop:=w.heap[b]?=some (.cells V.cells.toArray 31 (0,0))
theorem jk.lt{w:World}{b:Nat}{V:SV}(h:jk w b V):b<w.heap.size:=(bJ.1 h).1
theorem jk.blk{w:World}{b:Nat}{V:SV}(h:jk w b V):iV w b 31 V.cells:=h
theorem jk.below{w w':World}{b B:Nat}{V:SV}(h:jk w b V)(hb:Below B w w')(hB:b<B):jk w' b V:=(hb.block b hB).trans h
theorem jk.grown{w w':World}{b:Nat}{V:SV}{row:Option Nat}(h:jk w b V)(hg:w.grownBy w' row)(hne:some b≠row):jk w' b V:=(hg.block b h.lt hne).trans h
theorem jk.cells{w:World}{b:Nat}{V:SV}(h:jk w b V):w.cell? ⟨b,0,none⟩=some V.on/\w.cell? ⟨b,1,none⟩=some V.ak/\w.cell? ⟨b,2,none⟩=some V.aA/\w.cell? ⟨b,3,none⟩=some V.aF/\
  w.cell? ⟨b,4,none⟩=some V.gY/\w.cell? ⟨b,5,none⟩=some V.O/\w.cell? ⟨b,6,none⟩=some V.bg:=
 ⟨h.blk.cell rfl,h.blk.cell rfl,h.blk.cell rfl,h.blk.cell rfl,h.blk.cell rfl,h.blk.cell rfl,h.blk.cell rfl⟩
theorem jk.frozen{w:World}{b:Nat}{V:SV}(h:jk w b V)(o:Nat):w.frozen? ⟨b,o,none⟩=false:=h.blk.frozen o
theorem xA{w:World}{g:Nat}{e:TypeId}{cur:List Value}(h:iV w g e cur)(j:Nat)(u:Value):iV (w.setCell ⟨g,j,none⟩ u) g e (cur.set j u)/\w.grownBy (w.setCell ⟨g,j,none⟩ u) (some g):=by
 unfold iV at h
 have hl:=(bJ.1 h).1
 constructor
 ·unfold iV World.setCell;simp[Bv,h]
 ·refine⟨rfl,rfl,rfl,by simp[World.setCell],λk hk hne=>?_⟩
  unfold World.setCell;simp only;rw[Bv]
  rw[ay (λe=>hne (by rw[e]))]
theorem jk.Yv{w:World}{b:Nat}{V:SV}(h:jk w b V)(u:Value):jk (w.setCell ⟨b,0,none⟩ u) b {V with on:=u}:=(xA h.blk 0 u).1
theorem jk.Yu{w:World}{b:Nat}{V:SV}(h:jk w b V)(u:Value):jk (w.setCell ⟨b,1,none⟩ u) b {V with ak:=u}:=(xA h.blk 1 u).1
theorem Qe{ops:Array Oper}{rest:List Oper}{o:Oper}{a:Act}{w:World}{Q:Exit->Act->World->Prop}(hgd:o.guard=none)(x y:Operand)(ho:o.op=.store 31 x y)(hn:o.dst=none)(b:Nat)(V V':SV)
  (E5:jk w b V) (hx:a.eval x=.pointer (some ⟨b,0,none⟩)) (hy:a.eval y=V'.val) (h1:V'.cells.all (λu=>u.oneCell')=true)
  (h:∀w',jk w' b V'->w.grownBy w' (some b)->wpList prog ops Q rest a w'):wpList prog ops Q (o::rest) a w:=
 jv hgd λK hK=>by
  refine wp_store_row (P:=prog) 31 x y ho b V'.cells.toArray hx hy 31 V.cells.toArray E5 (by kernel_rfl) rfl (by simpa using h1) ?_
  rw[hn];exact hK _ _ (h _ (E5.blk.row V'.cells) (yU w b V'.cells.toArray))
theorem Own.mQ{α:Type}{enc:α->List Value}{size:Nat}{e:TypeId}{w:World}{aO:Nat}{v:Value}{l:List α}(h:Own enc size e w aO v l){b:Nat}{t:TypeId}{cur:List Value}(hb:iV w b t cur)(hne:e≠t):
  v.ownBlock=none\/v.ownBlock≠some b:=by
 cases hv:v.ownBlock with
 |none=>exact .inl rfl
 |some g=>
  refine .inr λhe=>?_
  injection he with he
  subst he;obtain⟨c1,h1⟩:=h.block hv;unfold iV at hb
  rw[h1]at hb
  injection hb with h2
  injection h2 with _ h3
  exact hne h3
namespace dK
variable {w w':World} {aO:Nat} {V:SV} {s:aJ}
theorem keptBy(h:dK w aO V s){b:Nat}{t:TypeId}{cur:List Value}(hg:w.grownBy w' (some b))(hb:iV w b t cur)(h1:23≠t)(h2:3≠t)(h3:42≠t)(h4:44≠t)(h5:46≠t)(h6:48≠t):dK w' aO V s:=
 ⟨h.on.kept hg (h.on.mQ hb h1),h.rlen,λb hlt=>(h.row b hlt).kept hg ((h.row b hlt).mQ hb h2),h.ak.kept hg (h.ak.mQ hb h3),h.llen,λo ho=>(h.aG o ho).kept hg ((h.aG o ho).mQ hb h4),h.aA.kept hg (h.aA.mQ hb h5),h.aF.kept hg (h.aF.mQ hb h6),h.gY.kept hg (h.gY.mQ hb h2),h.O.kept hg (h.O.mQ hb h2),h.bg.kept hg (h.bg.mQ hb h2),h.apart,h.yS⟩
theorem box(h:dK w aO V s){b:Nat}{V':SV}(hb:jk w b V')(j:Nat)(u:Value):dK (w.setCell ⟨b,j,none⟩ u) aO V s:=
 h.keptBy (xA hb.blk j u).2 hb.blk (by decide) (by decide) (by decide) (by decide) (by decide) (by decide)
theorem YD{l:List Order}{vs:List Value}(h:vs.length=l.length)(x:Order)(u:Value):zI (l++[x]) (vs++[u])=zI l vs++[(x.dW,u)]:=by
 unfold zI;rw[List.zipWith_append h.symm];rfl
theorem KJ{w1 w2:World}(h:dK w aO V s)(hb:Below w.heap.size w w1){u:Value}{x:Order}(hu:Own kP 4 44 w1 aO u x.aH)(hf:∀g,u.ownBlock=some g->w.heap.size<=g)(hg:w1.grownBy w2 V.ak.ownBlock)
  {v':Value} (hv:Own Nl 2 42 w2 aO v' (zI s.ak V.aH++[(x.dW,u)])):dK w2 aO {V with ak:=v',aH:=V.aH++[u]} {s with ak:=s.ak++[x]}:=by
 have k:=h.below hb;refine⟨k.on.kept hg (k.on.apart k.ak (by decide)),k.rlen,λb hlt=>(k.row b hlt).kept hg ((k.row b hlt).apart k.ak (by decide)),?_,by simp[h.llen],λo ho=>?_,k.aA.kept hg (k.aA.apart k.ak (by decide)),k.aF.kept hg (k.aF.apart k.ak (by decide)),k.gY.kept hg (k.gY.apart k.ak (by decide)),k.O.kept hg (k.O.apart k.ak (by decide)),k.bg.kept hg (k.bg.apart k.ak (by decide)),k.apart,?_⟩
 ·show Own Nl 2 42 w2 aO v' (zI (s.ak++[x]) (V.aH++[u]));rw[YD h.llen];exact hv
 ·have ho':o<s.ak.length+1:=by simpa using ho
  by_cases hlt:o<s.ak.length
  ·have e1:SV.aG {V with ak:=v',aH:=V.aH++[u]} o=V.aG o:=by
    unfold SV.aG;simp[fE (show o<V.aH.length by rw[h.llen];exact hlt)]
   have e2:aJ.aC {s with ak:=s.ak++[x]} o=s.aC o:=by
    unfold aJ.aC aU;simp[fE hlt]
   rw[e1,e2];exact(k.aG o hlt).kept hg ((k.aG o hlt).apart k.ak (by decide))
  ·have ho2:o=s.ak.length:=by omega
   have e1:SV.aG {V with ak:=v',aH:=V.aH++[u]} o=u:=by
    unfold SV.aG;rw[ho2,<- h.llen];simp
   have e2:aJ.aC {s with ak:=s.ak++[x]} o=x:=by
    unfold aJ.aC aU;rw[ho2];simp
   rw[e1,e2];exact hu.kept hg (hu.apart k.ak (by decide))
 ·show D6 (V.aH++[u]);unfold D6;rw[lD];refine⟨h.yS,rC _ _,λa ha b hb' g hga=>?_⟩
  obtain rfl:=iP.1 hb';intro he;have h1:=hf g he;obtain⟨i,hi,rfl⟩:=aV ha;have hil:i<s.ak.length:=by rw[<- h.llen];exact hi
  have e1:V.aG i=V.aH[i]:=by unfold SV.aG;simp[hi]
  have h2:=((h.aG i hil).size g (by rw[e1];exact hga)).2
  omega
theorem jdp{w2:World}(h:dK w aO V s)(hg:w.grownBy w2 V.ak.ownBlock){u:Value}{x:Order}(hu:Own kP 4 44 w2 aO u x.aH)(hf:∀g,u.ownBlock=some g->w.heap.size<=g)
  {v':Value} (hv:Own Nl 2 42 w2 aO v' (zI s.ak V.aH++[(x.dW,u)])):dK w2 aO {V with ak:=v',aH:=V.aH++[u]} {s with ak:=s.ak++[x]}:=by
 refine⟨h.on.kept hg (h.on.apart h.ak (by decide)),h.rlen,λb hlt=>(h.row b hlt).kept hg ((h.row b hlt).apart h.ak (by decide)),?_,by simp[h.llen],λo ho=>?_,h.aA.kept hg (h.aA.apart h.ak (by decide)),h.aF.kept hg (h.aF.apart h.ak (by decide)),h.gY.kept hg (h.gY.apart h.ak (by decide)),h.O.kept hg (h.O.apart h.ak (by decide)),h.bg.kept hg (h.bg.apart h.ak (by decide)),h.apart,?_⟩
 ·show Own Nl 2 42 w2 aO v' (zI (s.ak++[x]) (V.aH++[u]));rw[YD h.llen];exact hv
 ·have ho':o<s.ak.length+1:=by simpa using ho
  by_cases hlt:o<s.ak.length
  ·have e1:SV.aG {V with ak:=v',aH:=V.aH++[u]} o=V.aG o:=by
    unfold SV.aG;simp[fE (show o<V.aH.length by rw[h.llen];exact hlt)]
   have e2:aJ.aC {s with ak:=s.ak++[x]} o=s.aC o:=by
    unfold aJ.aC aU;simp[fE hlt]
   rw[e1,e2];exact(h.aG o hlt).kept hg ((h.aG o hlt).apart h.ak (by decide))
  ·have ho2:o=s.ak.length:=by omega
   have e1:SV.aG {V with ak:=v',aH:=V.aH++[u]} o=u:=by
    unfold SV.aG;rw[ho2,<- h.llen];simp
   have e2:aJ.aC {s with ak:=s.ak++[x]} o=x:=by
    unfold aJ.aC aU;rw[ho2];simp
   rw[e1,e2];exact hu
 ·show D6 (V.aH++[u]);unfold D6;rw[lD];refine⟨h.yS,rC _ _,λa ha b hb' g hga=>?_⟩
  obtain rfl:=iP.1 hb';intro he;have h1:=hf g he;obtain⟨i,hi,rfl⟩:=aV ha;have hil:i<s.ak.length:=by rw[<- h.llen];exact hi
  have e1:V.aG i=V.aH[i]:=by unfold SV.aG;simp[hi]
  have h2:=((h.aG i hil).size g (by rw[e1];exact hga)).2
  omega
end dK
theorem JX{w1 w2 w3:World}{row:Option Nat}(h:w1.grownBy w2 row)(h':w2.grownBy w3 row):w1.grownBy w3 row:=
 ⟨h'.os.trans h.os,h'.tape.trans h.tape,h'.output.trans h.output,aY h.size h'.size,λk hk hne=>(h'.block k (aI hk h.size) hne).trans (h.block k hk hne)⟩
theorem nV{w1 w2:World}{row:Option Nat}(h:Below w1.heap.size w1 w2):w1.grownBy w2 row:=⟨h.os,h.tape,h.output,h.size,λk hk _=>h.block k hk⟩
section
variable {P:Program}
theorem vF{α:Type}{enc:α->List Value}(w:World)(t ty e:TypeId)(z:Value)(size bytes:Nat)(ht:P.underlying t=some (.slice e))(hi:Elem P e z size bytes)(hzs:z.cells.size=size)(hsz:0<size)(hby:bytes<=64)
  (g:Nat) (hg:iV w g e []) (m:List α) (A:Option Addr) (c B:Nat) (hk:∀y,(enc y).length=size) (hA:At w B A (m.flatMap enc)) (hn:m.length<=1000000):
  ∃v' w',(Builtin.append_ #[t,t] ty #[.slice (some ⟨g,0,none⟩) 0 0,.slice A m.length c]).run P w=.ok v' w'/\Below w.heap.size w w'/\Own enc size e w' g v' m/\(0<m.length->Own enc size e w' w.heap.size v' m):=by
 have hi0:=hi;obtain⟨i,hi,hz,G8,hbytes⟩:=hi;rcases uQ m.length with h0|h0
 ·obtain rfl:m=[]:=mP h0;refine⟨.slice (some ⟨g,0,none⟩) 0 0,w,?_,aj _ _,Own.NH hk (au _) hg (au _) (aK _) (by simp) (by simp),λh=>by simp at h⟩
  cases A with
  |none=>simp[Builtin.append_,qy ht,Go.sizeOf,typeInfo,hi,Builtin.lenOf,Builtin.firstCells,storeCells]
  |some ad=>
   have hf:=qP (P:=P) w i.size 0 ad 0 c [] (by simp) (by simp)
   simp[Builtin.append_,qy ht,Go.sizeOf,typeInfo,hi,Builtin.lenOf,hf,storeCells]
 ·have hp:0<(m.flatMap enc).length:=by rw[kL enc size hk];exact Et h0 hsz
  have he:=(hA.ok hp).eq;have hmax:m.length<=maxLen:=by unfold maxLen;omega
  have hcap:Builtin.nextslicecap m.length 0*i.bytes<=281474976710656:=by
   rw[nextslicecap_zero h0,hbytes];exact aY (uV hn hby) (by decide)
  have hr:=run_append_grow (P:=P) w t ty e i z ht hi hz ⟨g,0,none⟩ 0 0 [] (by simp) (by simp) ⟨jd A,ou A,none⟩ m.length c (m.flatMap enc) (by rw[kL enc size hk,G8]) (λj u hj=>by rw[gU];exact hA.cell hj)
   (by omega) (by have:m.length<=1000000:=hn;omega) (by simpa using hcap)
  rw[<- he]at hr
  simp only[eY,Array.empty_append]at hr
  have hge:=grownCap_ge w m.length 0 e;have hcm:=grownCap_le_maxLen w m.length 0 e hmax;have lC:Own enc size e (w.drew.alloc (.cells ((m.flatMap enc).toArray++Builtin.zeroCells z.cells (grownCap w m.length 0 e - m.length)) e)) w.heap.size (.slice (some ⟨w.heap.size,0,none⟩) m.length (grownCap w m.length 0 e)) m:=by
   have hb:=iV.new w.drew e ((m.flatMap enc).toArray++Builtin.zeroCells z.cells (grownCap w m.length 0 e - m.length));refine Own.NH hk (au _) hb hge hcm ?_ ?_
   ·rw[nG,Array.size_append,jP,xK,hzs,kL enc size hk,<- ku];congr 1
    omega
   ·rw[Array.toList_append,<- kL enc size hk];exact List.take_left
  exact⟨_,_,hr,((aj _ _).drew.alloc (au _) _),lC.from_ (jh hg.lt),λ_=>lC⟩
end
def F5(w:World)(B:Nat)(on:List (List Int))(gY:List Int)(vO vI:Value):Prop:=∃gs,qM 23 3 w B vO on gs/\Own jJ 1 3 w B vI gY/\∀x∈gs,vI.ownBlock≠some x
def FZ(w:World)(B:Nat)(on:List (List Int))(gY out:List Int)(vO vI vU:Value):Prop:=∃gs,qM 23 3 w B vO on gs/\(Own jJ 1 3 w B vI gY/\∀x∈gs,vI.ownBlock≠some x)/\
 Own jJ 1 3 w B vU out/\(∀x∈gs,vU.ownBlock≠some x)/\∀x,vI.ownBlock=some x->vU.ownBlock≠some x
def FU(w:World)(B:Nat)(on:List (List Int))(gY out bg:List Int)(vO vI vU vX:Value):Prop:=∃gs,qM 23 3 w B vO on gs/\(Own jJ 1 3 w B vI gY/\∀x∈gs,vI.ownBlock≠some x)/\
 (Own jJ 1 3 w B vU out/\(∀x∈gs,vU.ownBlock≠some x)/\∀x,vI.ownBlock=some x->vU.ownBlock≠some x)/\
 Own jJ 1 3 w B vX bg/\(∀x∈gs,vX.ownBlock≠some x)/\(∀x,vI.ownBlock=some x->vX.ownBlock≠some x)/\∀x,vU.ownBlock=some x->vX.ownBlock≠some x
section
variable {w w':World} {B:Nat} {on:List (List Int)} {gY out bg:List Int} {vO vI vU vX:Value}
theorem F5.below(h:F5 w B on gY vO vI)(hb:Below w.heap.size w w'):F5 w' B on gY vO vI:=let ⟨gs,h1,h2,h3⟩:=h;⟨gs,h1.below hb,h2.below hb,h3⟩
theorem FZ.below(h:FZ w B on gY out vO vI vU)(hb:Below w.heap.size w w'):FZ w' B on gY out vO vI vU:=let ⟨gs,h1,⟨h2,h3⟩,h4,h5⟩:=h;⟨gs,h1.below hb,⟨h2.below hb,h3⟩,h4.below hb,h5⟩
theorem FU.below(h:FU w B on gY out bg vO vI vU vX)(hb:Below w.heap.size w w'):FU w' B on gY out bg vO vI vU vX:=
 let ⟨gs,h1,⟨h2,h3⟩,⟨h4,h5⟩,h6,h7⟩:=h
 ⟨gs,h1.below hb,⟨h2.below hb,h3⟩,⟨h4.below hb,h5⟩,h6.below hb,h7⟩
theorem KX{v:Value}{l:List Int}(h:Own jJ 1 3 w' w.heap.size v l){x:Nat}(hx:x<w.heap.size):v.ownBlock≠some x:=λhe=>by
 have:=(h.size x he).1;omega
theorem F5.of{gs:List Nat}(h:qM 23 3 w B vO on gs)(hB:B<=w.heap.size)(hb:Below w.heap.size w w')(hv:Own jJ 1 3 w' w.heap.size vI gY):F5 w' B on gY vO vI:=
 ⟨gs,h.below hb,hv.from_ hB,λ_ hx=>KX hv (h.mem hx).2⟩
theorem FZ.of(h:F5 w B on gY vO vI)(hB:B<=w.heap.size)(hb:Below w.heap.size w w')(hv:Own jJ 1 3 w' w.heap.size vU out):FZ w' B on gY out vO vI vU:=
 let ⟨gs,h1,h2,h3⟩:=h
 ⟨gs,h1.below hb,⟨h2.below hb,h3⟩,hv.from_ hB,λ_ hx=>KX hv (h1.mem hx).2,λx hx=>KX hv (h2.size x hx).2⟩
theorem FU.of(h:FZ w B on gY out vO vI vU)(hB:B<=w.heap.size)(hb:Below w.heap.size w w')(hv:Own jJ 1 3 w' w.heap.size vX bg):FU w' B on gY out bg vO vI vU vX:=
 let ⟨gs,h1,⟨h2,h3⟩,h4,h5,h6⟩:=h
 ⟨gs,h1.below hb,⟨h2.below hb,h3⟩,⟨h4.below hb,h5,h6⟩,hv.from_ hB,λ_ hx=>KX hv (h1.mem hx).2,λx hx=>KX hv (h2.size x hx).2,λx hx=>KX hv (h4.size x hx).2⟩
theorem qM.isSlice{E2 E1:TypeId}{gs:List Nat}{v:Value}(h:qM E2 E1 w B v on gs):∃A c,v=.slice A on.length c:=by
 obtain⟨vs,h1,h2,_⟩:=h;obtain⟨A,c,e⟩:=h1.isSlice;exact⟨A,c,by rw[e,h2]⟩
theorem F5.isSlice(h:F5 w B on gY vO vI):∃A c,vI=.slice A gY.length c:=let ⟨_,_,h2,_⟩:=h;h2.isSlice
theorem FZ.isSlice(h:FZ w B on gY out vO vI vU):∃A c,vU=.slice A out.length c:=let ⟨_,_,_,h4,_⟩:=h;h4.isSlice
theorem FU.isSlice(h:FU w B on gY out bg vO vI vU vX):∃A c,vX=.slice A bg.length c:=let ⟨_,_,_,_,h6,_⟩:=h;h6.isSlice
theorem FU.jbI(h:FU w B on gY out bg vO vI vU vX):∃A c,vO=.slice A on.length c:=let ⟨_,h1,_⟩:=h;h1.isSlice
theorem FU.made(h:FU w B on gY out bg vO vI vU vX){vH vM:Value}{aA:List dZ}{aF:List Move}(hH:Own ig 4 46 w B vH aA)(hM:Own nP 4 48 w B vM aF):
  ∃vs,dK w B ⟨vO,mJ,vH,vM,vI,vU,vX,vs,[]⟩ ⟨on,[],aA,aF,gY,out,bg⟩:=by
 obtain⟨gs,⟨vs,k1,k2,k3,k4,k5⟩,⟨h2,h3⟩,⟨h4,h5,h6⟩,h7,h8,h9,h10⟩:=h;have vS:∀b,b<on.length->∃g c,vs.getD b mJ=.slice (some ⟨g,0,none⟩) (fO on b).length c/\gs[b]?=some g/\Own jJ 1 3 w B (.slice (some ⟨g,0,none⟩) (fO on b).length c) (fO on b):=λb hb=>by
  obtain⟨g,c,e1,e2,e3⟩:=k5 b on[b] (by simp[hb])
  rw[xZ hb];exact⟨g,c,by rw[dU,e1];rfl,e2,e3⟩
 have hmem:∀u∈vs,∃g∈gs,u.ownBlock=some g:=λu hu=>by
  obtain⟨i,hi,rfl⟩:=aV hu;obtain⟨g,c,e1,e2,_⟩:=k5 i on[i] (by simp[<- k2,hi])
  rw[bf hi]at e1
  injection e1 with e1
  exact⟨g,tC e2,by rw[e1];rfl⟩
 refine⟨vs,k1,k2,λb hb=>?_,Own.nil,rfl,(λo ho=>by cases ho),hH,hM,h2,h4,h7,?_,List.Pairwise.nil⟩
 ·obtain⟨g,c,e1,_,e3⟩:=vS b hb;show Own jJ 1 3 w B (vs.getD b mJ) (fO on b);rw[e1];exact e3
 ·show D6 (vs++[vI,vU,vX]);unfold D6;rw[lD];refine⟨?_,?_,λa ha b hb g hg=>?_⟩
  ·rw[iY];intro i j hi hj hij g hg he;obtain⟨g1,c1,a1,b1,_⟩:=k5 i on[i] (by simp[<- k2,hi])
   obtain⟨g2,c2,a2,b2,_⟩:=k5 j on[j] (by simp[<- k2,hj])
   rw[bf hi]at a1
   rw[bf hj]at a2
   injection a1 with a1
   injection a2 with a2
   rw[a1]at hg
   rw[a2]at he
   simp only[Value.ownBlock,mZ]at hg he
   have hgi:i<gs.length:=by rw[k3,<- k2];exact hi
   have hgj:j<gs.length:=by rw[k3,<- k2];exact hj
   rw[bf hgi]at b1
   rw[bf hgj]at b2
   injection b1 with b1
   injection b2 with b2
   have:gs[i]=gs[j]:=by rw[b1,b2,hg,he]
   have:=(List.getElem_inj k4).1 this;omega
  ·refine List.Pairwise.cons (λb hb g hg=>?_) (List.Pairwise.cons (λb hb g hg=>?_) (rC _ _))
   ·rcases jM.1 hb with rfl|hb
    ·exact h6 g hg
    ·obtain rfl:=iP.1 hb;exact h9 g hg
   ·obtain rfl:=iP.1 hb;exact h10 g hg
  ·obtain⟨g',hg',e⟩:=hmem a ha;rw[hg]at e
   injection e with e
   subst e;simp only[jM,oK,ny]at hb
   rcases hb with rfl|rfl|rfl
   ·exact h3 g hg'
   ·exact h5 g hg'
   ·exact h8 g hg'
end
end Wh
namespace Wh
open Go Go.RowKit Go.Proofs Tryz
theorem Below.gB{k:Nat}{a w w':World}(h:Below a.heap.size a w)(hg:w.grownBy w' (some k))(hk:a.heap.size<=k:=by omega):Below a.heap.size a w':=
 h.grown hg h.size (λ_ e=>by injection e;omega)
theorem dB{ops:Array Oper}{rest:List Oper}{o:Oper}{a:Act}{w:World}{Q:Exit->Act->World->Prop}{b:Nat}(x y:Operand)(V V':SV)(ho:(o.guard,o.op,o.dst)=(none,.store 31 x y,none))
  (E5:jk w b V) (hxy:(a.eval x,a.eval y)=(.pointer (some ⟨b,0,none⟩),V'.val)) (h1:V'.cells.all (λu=>u.oneCell')=true)
  (h:∀w',jk w' b V'->w.grownBy w' (some b)->wpList prog ops Q rest a w'):wpList prog ops Q (o::rest) a w:=by
 injection ho with h2 h3
 injection h3 with h3 h4
 injection hxy with h5 h6
 exact Qe h2 x y h3 h4 b V V' E5 h5 h6 h1 h
theorem jo{fn:Func}{R:Ending->World->Prop}{a:Act}{w:World}{i j b:Nat}{V:SV}(hr:fn.results=#[.cell i 31,.tmp j])(h:jk w b V)
  (hi:a.tmps.getD i undef=.pointer (some ⟨b,0,none⟩)) (hd:a.defers=[]) (hR:R (.returned (.tuple #[V.val,a.tmps.getD j undef])) w):bodyPost prog fn R .ret a w:=by
 refine fD (v:=.tuple #[V.val,a.tmps.getD j undef]) ?_ hd hR
 obtain⟨p0,p1,p2,p3,p4,p5,p6⟩:=jk.cells h;have hi':=hi;rw[ji]at hi'
 simp[results,hr,hi',go_sem,SV.val,p0,p1,p2,p3,p4,p5,p6]
end Wh
namespace Wh
open Go Go.RowKit
structure GB where
 d:Nat
 os:Array Obj
instance:Inhabited GB:=⟨⟨0,#[]⟩⟩
def wld(w:World)(d:Nat)(os:Array Obj):World:={w with drawn:=d,heap:=w.heap++os}
theorem kW(w:World)(d:Nat)(os:Array Obj):Below w.heap.size w (wld w d os):=
 ⟨rfl,rfl,rfl,by simp[wld],λk hk=>by simp[wld,yL hk]⟩
theorem Zm{w w':World}(h:Below w.heap.size w w'):∃p:GB,w'=wld w p.d p.os:=by
 obtain⟨h1,h2,h3,h4,h5⟩:=h;obtain⟨heap,tape,drawn,os,output⟩:=w';refine⟨⟨drawn,heap.extract w.heap.size heap.size⟩,?_⟩
 simp only at h1 h2 h3 h4 h5
 subst h1 h2 h3;unfold wld;congr 1
 apply nO;intro k;by_cases hk:k<w.heap.size
 ·rw[h5 k hk,yL hk]
 ·rw[xY (by omega)]
  simp only[Array.getElem?_extract]
  by_cases hl:k<heap.size
  ·rw[aB (by omega)]
   congr 1
   omega
  ·rw[ay (by omega),fZ (by omega)]
theorem bY{w:World}{b:Nat}(hb:b<w.heap.size)(o:Nat)(d:Nat)(os:Array Obj):(wld w d os).cell? ⟨b,o,none⟩=w.cell? ⟨b,o,none⟩:=
 (kW w d os).cell (p:=⟨b,o,none⟩) hb
theorem dG{P:Program}{id:Nat}{Q:Exit->Act->World->Prop}{a:Act}{w:World}{l:List Oper}(hm:P.follows .mixedOrders=true)(hB:Region.lexB .any l.toArray=true)
  (h:wpQuiet P l.toArray (λw'=>∃p:GB,w'=wld w p.d p.os) (λa'=>∀w',(∃p:GB,w'=wld w p.d p.os)->Q .normal a' w') l a):(Code.region id l.toArray true).wp P Q a w:=
 wp_region_quiet (C:=λw'=>∃p:GB,w'=wld w p.d p.os) hm hB ⟨⟨w.drawn+1,#[]⟩,by simp[wld]⟩ (by simpa using h)
theorem gI{P:Program}{f:FuncId}{args:Array Value}{w:World}{d:Nat}{os:Array Obj}{v:Value}
  (h:Calls P f args (wld w d os) λe w'=>e=.returned v/\Below (wld w d os).heap.size (wld w d os) w'):Calls P f args (wld w d os) λe w''=>e=.returned v/\∃p:GB,w''=wld w p.d p.os:=
 h.mono λ_ _ ⟨he,hb⟩=>⟨he,Zm ((kW w d os).trans (hb.mono (kW w d os).size))⟩
theorem Dn{P:Program}{f:FuncId}{args:Array Value}{w:World}{d:Nat}{os:Array Obj}{v:Value}
  (h:Calls P f args (wld w d os) λe w'=>e=.returned v/\wld w d os=w'):Calls P f args (wld w d os) λe w''=>e=.returned v/\∃p:GB,w''=wld w p.d p.os:=
 h.mono λ_ _ ⟨he,hb⟩=>⟨he,⟨d,os⟩,hb.symm⟩
theorem dD{w W:World}(h:∃p:GB,W=wld w p.d p.os):Below w.heap.size w W:=by
 obtain⟨p,rfl⟩:=h;exact kW w p.d p.os
end Wh
