/- Texts of the claim, joined. -/
import Derived.WalkSpells
import Derived.WalkLawsBesides
import Derived.Shelf.Abstract
import Derived.Maps.AppendAt
import Derived.Deep.QuietTactic
import Derived.BigQuiet
import Derived.Deep.RegionWith
import Derived.Deep.AppendLies
import Derived.Laws.CopyRow
import Derived.Lib.AppendZerosOnto
import Derived.Lib.Overlaps
import Derived.Laws.Externs
import Derived.Test.YtfhfkijmebhgmaaGreatChecked
import Derived.Test.YtfhfkijmebhgmaaGreatK01
set_option maxHeartbeats 20000000
set_option maxRecDepth 100000
namespace Wh
open Go Go.RowKit
def okA(A:Option Addr):Prop:=∃b off,A=some ⟨b,off,none⟩
def jd:Option Addr->Nat
 |some a=>a.block
 |none=>0
def ou:Option Addr->Nat
 |some a=>a.off
 |none=>0
theorem VG(b off:Nat):okA (some ⟨b,off,none⟩):=⟨b,off,rfl⟩
theorem okA.eq{A:Option Addr}(h:okA A):A=some ⟨jd A,ou A,none⟩:=by obtain⟨b,off,rfl⟩:=h;rfl
section
variable {P:Program} (w:World)
theorem aT(t:TypeId)(A:Option Addr)(len cap:Nat)(k:IntKind)(i:Int)(h:P.underlying t=some (.slice (P.elem t)))(hA:okA A):
  (Instr.indexAt t (.slice A len cap) (.int k i)).run P w=
   if 0<=i/\i<len then((Go.sizeOf (P.elem t)).run P w).andThen λs w=>.ok (.pointer (some ⟨jd A,ou A+i.toNat*s,none⟩)) w
   else(boundsPanic k i len .index).run P w:=by
 obtain⟨b,off,rfl⟩:=hA;rw[run_indexAt_slice w t _ len cap k i h];simp only[gU,jd,ou]
end
def At(w:World)(B:Nat)(A:Option Addr)(xs:List Value):Prop:=
 xs≠[]->okA A/\jd A<B/\∀j v,xs[j]?=some v->w.cell? ⟨jd A,ou A+j,none⟩=some v
section
variable {w w':World} {B B':Nat} {A:Option Addr} {xs:List Value}
theorem At.nil:At w B A []:=λh=>absurd rfl h
theorem At.up(h:At w B A xs)(hb:Below B w w')(hB:B<=B'):At w' B' A xs:=λhn=>
 let ⟨h1,h2,h3⟩:=h hn
 ⟨h1,by omega,λj v hj=>(hb.cell (p:=⟨jd A,ou A+j,none⟩) h2).trans (h3 j v hj)⟩
theorem At.ok(h:At w B A xs)(hn:0<xs.length):okA A:=(h (by rintro rfl;simp at hn)).1
theorem At.lt(h:At w B A xs)(hn:0<xs.length):jd A<B:=(h (by rintro rfl;simp at hn)).2.1
theorem At.cell(h:At w B A xs){j:Nat}{v:Value}(hj:xs[j]?=some v):w.cell? ⟨jd A,ou A+j,none⟩=some v:=
 (h (by rintro rfl;simp at hj)).2.2 j v hj
end
theorem xH{W w1:World}(hb:Below W.heap.size W w1):(∀b o,b<W.heap.size->w1.cell? ⟨b,o,none⟩=W.cell? ⟨b,o,none⟩)/\(∀b o,b<W.heap.size->w1.frozen? ⟨b,o,none⟩=W.frozen? ⟨b,o,none⟩):=
 ⟨λb o h=>hb.cell (p:=⟨b,o,none⟩) h,λb o h=>hb.frozen (p:=⟨b,o,none⟩) h⟩
theorem below_drewN{B:Nat}{a w:World}(h:Below B a w)(n:Nat):Below B a (w.drewN n):=⟨h.os,h.tape,h.output,h.size,h.block⟩
theorem iF{k:IntKind}{a b:Int}(h:a=b):Ending.returned (.int k a)=.returned (.int k b):=by rw[h]
theorem fK{a b:Bool}(h:a=b):Ending.returned (.bool a)=.returned (.bool b):=by rw[h]
theorem jdj{a b c d:Value}(h:a=b)(h':c=d):Ending.returned (.tuple #[a,c])=.returned (.tuple #[b,d]):=by rw[h,h']
theorem KZ{α:Type}(enc:α->List Value)(k:Nat)(hk:∀x,(enc x).length=k):
  ∀(l:List α) (i j:Nat) (x:α),l[i]?=some x->j<k->(l.flatMap enc)[i*k+j]?=(enc x)[j]?
 |[],_,_,_,h,_=>by simp at h
 |y::l,0,j,x,h,hj=>by
  simp at h
  subst h;simp[fE (show j<(enc y).length by rw[hk];exact hj)]
 |y::l,i+1,j,x,h,hj=>by
  simp only[vw]at h
  have ih:=KZ enc k hk l i j x h hj;rw[kR,jX (by rw[hk];rw[ku];omega),hk,<- ih]
  congr 1
  rw[ku];omega
theorem kL{α:Type}(enc:α->List Value)(k:Nat)(hk:∀x,(enc x).length=k)(l:List α):(l.flatMap enc).length=l.length*k:=by
 induction l with
 |nil=>simp
 |cons y l ih=>rw[kR,aZ,hk,ih,dw,ku];omega
def int(n:Int):Value:=.int .i64 n
def jJ(n:Int):List Value:=[.int .i64 n]
def PG(b:Bin):List Value:=[.bool b.front,.int .i64 b.room,.int .i64 b.low,.int .i64 b.high]
def kP(x:Line):List Value:=[.int .i64 x.dh,.int .i64 x.iw,.int .i64 x.oh,.int .i64 x.dP]
def ig(x:dZ):List Value:=[.int .i64 x.aC,.int .i64 x.aG,.int .i64 x.bin,.int .i64 x.n]
def nP(x:Move):List Value:=[.int .i64 x.dh,.int .i64 x.src,.int .i64 x.dst,.int .i64 x.n]
def jj8(b:Bin):Value:=.agg #[.bool b.front,.int .i64 b.room,.int .i64 b.low,.int .i64 b.high]
def I5(x:Line):Value:=.agg #[.int .i64 x.dh,.int .i64 x.iw,.int .i64 x.oh,.int .i64 x.dP]
def um(x:dZ):Value:=.agg #[.int .i64 x.aC,.int .i64 x.aG,.int .i64 x.bin,.int .i64 x.n]
def D8(x:Move):Value:=.agg #[.int .i64 x.dh,.int .i64 x.src,.int .i64 x.dst,.int .i64 x.n]
def Sl{α:Type}(enc:α->List Value)(w:World)(B:Nat)(v:Value)(l:List α):Prop:=
 ∃A c,v=.slice A l.length c/\l.length<=140737488355232/\At w B A (l.flatMap enc)
section
variable {α:Type} {enc:α→List Value} {w w':World} {B B':Nat} {v:Value} {l:List α}
theorem Sl.up(h:Sl enc w B v l)(hb:Below B w w')(hB:B<=B'):Sl enc w' B' v l:=
 let ⟨A,c,h1,h2,h3⟩:=h
 ⟨A,c,h1,h2,h3.up hb hB⟩
theorem Sl.at_{A:Option Addr}{n c:Nat}(h:Sl enc w B (.slice A n c) l):At w B A (l.flatMap enc):=by
 obtain⟨A',c',h1,_,h3⟩:=h;injection h1 with e
 rw[e];exact h3
theorem Sl.drew(h:Sl enc w B v l):Sl enc w.drew B v l:=h
theorem Sl.nil:Sl enc w B (.slice none 0 0) ([]:List α):=⟨none,0,rfl,by simp,At.nil⟩
end
def FW{α:Type}(enc:α->List Value)(w:World)(B:Nat)(v:Value)(l:List (List α)):Prop:=
 ∃A c vs,v=.slice A l.length c/\l.length<=140737488355232/\vs.length=l.length/\At w B A vs/\∀(i:Nat) (x:List α),l[i]?=some x->∃u,vs[i]?=some u/\Sl enc w B u x
def nJ(w:World)(B:Nat)(v:Value)(l:List Order):Prop:=
 ∃A c vs,v=.slice A l.length c/\l.length<=140737488355232/\vs.length=l.length/\
  At w B A ((l.zip vs).flatMap λx=>[.int .i64 x.1.dW,x.2])/\∀(i:Nat) (x:Order),l[i]?=some x->∃u,vs[i]?=some u/\Sl kP w B u x.aH
theorem FW.up{α:Type}{enc:α->List Value}{w w':World}{B B':Nat}{v:Value}{l:List (List α)}(h:FW enc w B v l)(hb:Below B w w')(hB:B<=B'):FW enc w' B' v l:=
 let ⟨A,c,vs,h1,h2,h3,h4,h5⟩:=h
 ⟨A,c,vs,h1,h2,h3,h4.up hb hB,λi x hi=>let ⟨u,hu,hs⟩:=h5 i x hi;⟨u,hu,hs.up hb hB⟩⟩
theorem nJ.up{w w':World}{B B':Nat}{v:Value}{l:List Order}(h:nJ w B v l)(hb:Below B w w')(hB:B<=B'):nJ w' B' v l:=
 let ⟨A,c,vs,h1,h2,h3,h4,h5⟩:=h
 ⟨A,c,vs,h1,h2,h3,h4.up hb hB,λi x hi=>let ⟨u,hu,hs⟩:=h5 i x hi;⟨u,hu,hs.up hb hB⟩⟩
def mW(w:World)(B:Nat)(v:Value)(p:dA):Prop:=
 ∃vb vs,v=.agg #[vb,vs]/\Sl PG w B vb p.bQ/\Sl jJ w B vs p.aP
def lK(w:World)(B:Nat)(v:Value)(s:aJ):Prop:=
 ∃v0 v1 v2 v3 v4 v5 v6,v=.agg #[v0,v1,v2,v3,v4,v5,v6]/\FW jJ w B v0 s.on/\nJ w B v1 s.ak/\Sl ig w B v2 s.aA/\Sl nP w B v3 s.aF/\
  Sl jJ w B v4 s.gY/\Sl jJ w B v5 s.O/\Sl jJ w B v6 s.bg
theorem mW.up{w w':World}{B B':Nat}{v:Value}{p:dA}(h:mW w B v p)(hb:Below B w w')(hB:B<=B'):mW w' B' v p:=
 let ⟨vb,vs,h1,h2,h3⟩:=h
 ⟨vb,vs,h1,h2.up hb hB,h3.up hb hB⟩
theorem lK.up{w w':World}{B B':Nat}{v:Value}{s:aJ}(h:lK w B v s)(hb:Below B w w')(hB:B<=B'):lK w' B' v s:=
 let ⟨v0,v1,v2,v3,v4,v5,v6,h,h0,h1,h2,h3,h4,h5,h6⟩:=h
 ⟨v0,v1,v2,v3,v4,v5,v6,h,h0.up hb hB,h1.up hb hB,h2.up hb hB,h3.up hb hB,h4.up hb hB,h5.up hb hB,h6.up hb hB⟩
section
variable {w:World} {B:Nat} {A:Option Addr}
theorem At.flat{α:Type}{enc:α->List Value}{k:Nat}(hk:∀x,(enc x).length=k){l:List α}(h:At w B A (l.flatMap enc)){i:Nat}{x:α}(hi:l[i]?=some x){j:Nat}(hj:j<k){v:Value}(hv:(enc x)[j]?=some v):
  w.cell? ⟨jd A,ou A+i*k+j,none⟩=some v:=by
 have h1:=KZ enc k hk l i j x hi hj;rw[hv]at h1
 rw[Ci];exact h.cell h1
theorem At.jfT{α:Type}{enc:α->List Value}{k:Nat}(hk:∀x,(enc x).length=k+1){l:List α}(h:At w B A (l.flatMap enc)){i:Nat}(hi:i<l.length):okA A/\jd A<B:=by
 have h1:0<(l.flatMap enc).length:=by rw[kL enc (k+1) hk];exact Et (by omega) (by omega)
 exact⟨h.ok h1,h.lt h1⟩
theorem At.int{l:List Int}(h:At w B A (l.flatMap jJ)){i:Nat}(hi:i<l.length):
  okA A/\jd A<B/\w.cell? ⟨jd A,ou A+i,none⟩=some (.int .i64 (bI l i)):=by
 obtain⟨h1,h2⟩:=h.jfT (k:=0) (λ_=>rfl) hi
 have e:l[i]?=some (bI l i):=by simp[bI,hi]
 have h3:=h.flat (k:=1) (λ_=>rfl) e (j:=0) (by omega) rfl
 simp only[nC,jB]at h3
 exact⟨h1,h2,h3⟩
theorem At.bin{l:List Bin}(h:At w B A (l.flatMap PG)){i:Nat}(hi:i<l.length):
  okA A/\jd A<B/\w.cell? ⟨jd A,ou A+i*4,none⟩=some (.bool (l9 l i).front)/\w.cell? ⟨jd A,ou A+i*4+1,none⟩=some (.int .i64 (l9 l i).room)/\
  w.cell? ⟨jd A,ou A+i*4+2,none⟩=some (.int .i64 (l9 l i).low)/\w.cell? ⟨jd A,ou A+i*4+3,none⟩=some (.int .i64 (l9 l i).high):=by
 obtain⟨h1,h2⟩:=h.jfT (k:=3) (λ_=>rfl) hi
 have e:l[i]?=some (l9 l i):=by simp[l9,hi]
 have f:=λj hj v hv=>h.flat (k:=4) (λ_=>rfl) e (j:=j) hj (v:=v) hv
 exact⟨h1,h2,f 0 (by omega) _ rfl,f 1 (by omega) _ rfl,f 2 (by omega) _ rfl,f 3 (by omega) _ rfl⟩
theorem At.hold{l:List dZ}(h:At w B A (l.flatMap ig)){i:Nat}(hi:i<l.length):
  okA A/\jd A<B/\w.cell? ⟨jd A,ou A+i*4,none⟩=some (.int .i64 (hold l i).aC)/\w.cell? ⟨jd A,ou A+i*4+1,none⟩=some (.int .i64 (hold l i).aG)/\
  w.cell? ⟨jd A,ou A+i*4+2,none⟩=some (.int .i64 (hold l i).bin)/\w.cell? ⟨jd A,ou A+i*4+3,none⟩=some (.int .i64 (hold l i).n):=by
 obtain⟨h1,h2⟩:=h.jfT (k:=3) (λ_=>rfl) hi
 have e:l[i]?=some (Wh.hold l i):=by simp[Wh.hold,hi]
 have f:=λj hj v hv=>h.flat (k:=4) (λ_=>rfl) e (j:=j) hj (v:=v) hv
 exact⟨h1,h2,f 0 (by omega) _ rfl,f 1 (by omega) _ rfl,f 2 (by omega) _ rfl,f 3 (by omega) _ rfl⟩
theorem At.aG{l:List Line}(h:At w B A (l.flatMap kP)){i:Nat}(hi:i<l.length):
  okA A/\jd A<B/\w.cell? ⟨jd A,ou A+i*4,none⟩=some (.int .i64 (gK l i).dh)/\w.cell? ⟨jd A,ou A+i*4+1,none⟩=some (.int .i64 (gK l i).iw)/\
  w.cell? ⟨jd A,ou A+i*4+2,none⟩=some (.int .i64 (gK l i).oh)/\w.cell? ⟨jd A,ou A+i*4+3,none⟩=some (.int .i64 (gK l i).dP):=by
 obtain⟨h1,h2⟩:=h.jfT (k:=3) (λ_=>rfl) hi
 have e:l[i]?=some (gK l i):=by simp[gK,hi]
 have f:=λj hj v hv=>h.flat (k:=4) (λ_=>rfl) e (j:=j) hj (v:=v) hv
 exact⟨h1,h2,f 0 (by omega) _ rfl,f 1 (by omega) _ rfl,f 2 (by omega) _ rfl,f 3 (by omega) _ rfl⟩
theorem At.move{l:List Move}(h:At w B A (l.flatMap nP)){i:Nat}(hi:i<l.length):
  okA A/\jd A<B/\w.cell? ⟨jd A,ou A+i*4,none⟩=some (.int .i64 (bH l i).dh)/\w.cell? ⟨jd A,ou A+i*4+1,none⟩=some (.int .i64 (bH l i).src)/\
  w.cell? ⟨jd A,ou A+i*4+2,none⟩=some (.int .i64 (bH l i).dst)/\w.cell? ⟨jd A,ou A+i*4+3,none⟩=some (.int .i64 (bH l i).n):=by
 obtain⟨h1,h2⟩:=h.jfT (k:=3) (λ_=>rfl) hi
 have e:l[i]?=some (bH l i):=by simp[bH,hi]
 have f:=λj hj v hv=>h.flat (k:=4) (λ_=>rfl) e (j:=j) hj (v:=v) hv
 exact⟨h1,h2,f 0 (by omega) _ rfl,f 1 (by omega) _ rfl,f 2 (by omega) _ rfl,f 3 (by omega) _ rfl⟩
end
theorem Sl.isSlice{α:Type}{enc:α->List Value}{w:World}{B:Nat}{v:Value}{l:List α}(h:Sl enc w B v l):∃A c,v=.slice A l.length c:=
 let ⟨A,c,h1,_,_⟩:=h
 ⟨A,c,h1⟩
theorem FW.row{w:World}{B:Nat}{A:Option Addr}{n c:Nat}{l:List (List Int)}(h:FW jJ w B (.slice A n c) l){i:Nat}(hi:i<l.length):
  ∃A' c',okA A/\jd A<B/\w.cell? ⟨jd A,ou A+i,none⟩=some (.slice A' (fO l i).length c')/\Sl jJ w B (.slice A' (fO l i).length c') (fO l i):=by
 obtain⟨A0,c0,vs,hv,_,hvl,hA,hr⟩:=h;injection hv with h1 h2 h3
 subst h1;obtain⟨u,hu,hs⟩:=hr i l[i] (by simp[hi])
 have e:fO l i=l[i]:=by simp[fO,hi]
 have h0:0<vs.length:=by omega
 obtain⟨A',c',rfl⟩:=hs.isSlice;rw[e];exact⟨A',c',hA.ok h0,hA.lt h0,hA.cell hu,hs⟩
theorem nJ.aC{w:World}{B:Nat}{A:Option Addr}{n c:Nat}{l:List Order}(h:nJ w B (.slice A n c) l){i:Nat}(hi:i<l.length):
  ∃A' c',okA A/\jd A<B/\w.cell? ⟨jd A,ou A+i*2,none⟩=some (.int .i64 (aU l i).dW)/\
   w.cell? ⟨jd A,ou A+i*2+1,none⟩=some (.slice A' (aU l i).aH.length c')/\Sl kP w B (.slice A' (aU l i).aH.length c') (aU l i).aH:=by
 obtain⟨A0,c0,vs,hv,_,hvl,hA,hr⟩:=h;injection hv with h1 h2 h3
 subst h1;obtain⟨u,hu,hs⟩:=hr i l[i] (by simp[hi])
 have e:aU l i=l[i]:=by simp[aU,hi]
 obtain⟨A',c',rfl⟩:=hs.isSlice;rw[e];have hz:(l.zip vs)[i]?=some (l[i],.slice A' l[i].aH.length c'):=by
  rw[List.getElem?_zip_eq_some]
  exact⟨by simp[hi],hu⟩
 have hzl:i<(l.zip vs).length:=by rw[List.length_zip];omega
 have f:=λj hj v hv=>hA.flat (k:=2) (λ_=>rfl) hz (j:=j) hj (v:=v) hv
 obtain⟨h1,h2⟩:=hA.jfT (k:=1) (λ_=>rfl) hzl
 exact⟨A',c',h1,h2,f 0 (by omega) _ rfl,f 1 (by omega) _ rfl,hs⟩
/-! ### What the call itself makes -/
def Gives(R:Value->World->Prop)(w:World)(e:Ending)(w':World):Prop:=∃v,e=.returned v/\R v w'/\Below w.heap.size w w'
def Own{α:Type}(enc:α->List Value)(size:Nat)(e:TypeId)(w:World)(aO:Nat)(v:Value)(l:List α):Prop:=w.ownsRow aO e size v l.length (l.flatMap enc)
def Elem(P:Program)(e:TypeId)(z:Value)(size bytes:Nat):Prop:=∃i,P.info? e=some i/\i.zero=some z/\i.size=size/\i.bytes=bytes
theorem Iu{P:Program}{e:TypeId}{z:Value}{size bytes:Nat}(h:(P.info? e).map (λi=>(i.zero,i.size,i.bytes))=some (some z,size,bytes)):Elem P e z size bytes:=by
 cases hi:P.info? e with
 |none=>rw[hi]at h;simp at h
 |some i=>
  rw[hi]at h
  simp only[iH,mZ,sQ]at h
  exact⟨i,hi,h.1,h.2.1,h.2.2⟩
section
variable {α:Type} {enc:α→List Value} {size:Nat} {e:TypeId} {w w':World} {aO:Nat} {v:Value} {l:List α}
theorem Own.nil:Own enc size e w aO (.slice none 0 0) []:=World.ownsRow_nil w aO e size
theorem Own.alloc(h:Own enc size e w aO v l)(o:Obj):Own enc size e (w.alloc o) aO v l:=Ce h o
theorem Own.from_{base':Nat}(h:Own enc size e w aO v l)(hb:base'<=aO):Own enc size e w base' v l:=by
 refine⟨h.1,?_⟩
 rcases h.2 with hn|⟨g,cap,cur,h1,h2,r⟩
 ·exact .inl hn
 ·exact .inr ⟨g,cap,cur,h1,by omega,r⟩
theorem Own.isSlice(h:Own enc size e w aO v l):∃A c,v=.slice A l.length c:=by
 rcases h.2 with⟨h1,h2⟩|⟨g,cap,cur,h1,_⟩
 ·exact⟨none,0,by rw[h1,h2]⟩
 ·exact⟨_,_,h1⟩
theorem Own.below(h:Own enc size e w aO v l)(hb:Below w.heap.size w w'):Own enc size e w' aO v l:=by
 refine⟨h.1,?_⟩
 rcases h.2 with hn|⟨g,cap,cur,rfl,hbg,hg,rest⟩
 ·exact .inl hn
 ·exact .inr ⟨g,cap,cur,rfl,hbg,by rw[hb.block g (bJ.1 hg).1];exact hg,rest⟩
theorem Own.sl(h:Own enc size e w aO v l)(hn:l.length<=140737488355232):Sl enc w w.heap.size v l:=by
 rcases h.2 with⟨h1,h2⟩|⟨g,cap,cur,rfl,hb,hg,hnc,hcm,hcs,htake⟩
 ·obtain rfl:l=[]:=mP h2;subst h1;exact Sl.nil
 ·refine⟨some ⟨g,0,none⟩,cap,rfl,hn,λ_=>⟨VG _ _,(bJ.1 hg).1,λj u hj=>?_⟩⟩
  have hh:w.ownsRow aO e size (.slice (some ⟨g,0,none⟩) l.length cap) l.length (l.flatMap enc):=h;have:=hh.cells (g:=g) rfl j u hj;simpa[gU,jd,ou]using this
end
theorem UU(n:Int):∀u∈jJ n,u.oneCell'=true:=by simp[jJ,Value.oneCell']
theorem Own.size{α:Type}{enc:α->List Value}{size:Nat}{e:TypeId}{w:World}{aO:Nat}{v:Value}{l:List α}(h:Own enc size e w aO v l):∀k,v.ownBlock=some k->aO<=k/\k<w.heap.size:=nK h
section
variable {P:Program} (w:World)
theorem lS{α:Type}{enc:α->List Value}{ops:Array Oper}{rest:List Oper}{o:Oper}{a:Act}{Q:Exit->Act->World->Prop}(hgd:o.guard=none)(s x:Operand)(t e:TypeId)
  (ho:o.op=.call {callee:=.builtin .append,args:=#[s,x],argTypes:=#[t,t]}) (aO:Nat) (z:Value) (size bytes:Nat) (ht:P.underlying t=some (.slice e)) (hi:Elem P e z size bytes)
  (hzs:z.cells.size=size) (hsz:0<size) (hby:bytes<=64) (v:Value) (l:List α) (y:α) (hs:a.eval s=v) (lC:Own enc size e w aO v l)
  (ad:Addr) (c:Nat) (hx:a.eval x=.slice (some ad) 1 c) (hl:(enc y).length=size) (hnews:∀j u,(enc y)[j]?=some u->w.cell? (ad.add j)=some u) (h1:∀u∈enc y,u.oneCell'=true)
  (hn:l.length<=1000000) (rV:aO<=w.heap.size)
  (h:∀v' w',Own enc size e w' aO v' (l++[y])->w.grownBy w' v.ownBlock->(v'.ownBlock=v.ownBlock\/v'.ownBlock=some w.heap.size)->Below aO w w'->wpList P ops Q rest (a.put o.dst v') w'):
  wpList P ops Q (o::rest) a w:=by
 obtain⟨i,hi,hz,G8,hbytes⟩:=hi;have hb:(l.length+1)*bytes<=140737488355328:=aY (uV (show l.length+1<=1000001 by omega) hby) (by decide)
 refine wpList_append_own_at w hgd s x t ho aO e i z size bytes ht hi hz G8 hbytes hzs hsz v l.length _ hs lC ad 1 c (enc y) hx (by rw[hl,Es]) hnews h1 (by unfold maxLen;omega) hb rV ?_
 intro v' w' h2 h3 _ h5;refine h v' w' ?_ h3 h5 ((aj _ _).grown h3 rV λk hk=>(nK lC k hk).1)
 unfold Own;rw[aZ,gy];simpa using h2
end
theorem Sl.grow{α:Type}{enc:α->List Value}{w w':World}{v:Value}{l:List α}(h:Sl enc w w.heap.size v l)(hb:Below w.heap.size w w'):Sl enc w' w'.heap.size v l:=h.up hb hb.size
theorem mW.grow{w w':World}{v:Value}{p:dA}(h:mW w w.heap.size v p)(hb:Below w.heap.size w w'):mW w' w'.heap.size v p:=h.up hb hb.size
theorem lK.grow{w w':World}{v:Value}{s:aJ}(h:lK w w.heap.size v s)(hb:Below w.heap.size w w'):lK w' w'.heap.size v s:=h.up hb hb.size
end Wh
namespace Wh
open Go Go.RowKit
section
variable {P:Program} (w:World)
theorem run_append_nil(aO:Nat)(t ty e:TypeId)(i:TypeInfo)(size:Nat)(ht:P.underlying t=some (.slice e))(hi:P.info? e=some i)
  (v:Value) (n:Nat) (xs:List Value) (lC:w.ownsRow aO e size v n xs) (c:Nat):(Builtin.append_ #[t,t] ty #[v,.slice none 0 c]).run P w=.ok v w:=by
 rcases lC.2 with⟨rfl,rfl⟩|⟨g,cap,cur,rfl,_,_,hnc,_⟩
 ·simp[Builtin.append_,qy ht,Go.sizeOf,typeInfo,hi,Builtin.lenOf,Builtin.firstCells]
 ·simp[Builtin.append_,qy ht,Go.sizeOf,typeInfo,hi,Builtin.lenOf,Builtin.firstCells,hnc,storeCells]
theorem IV{α:Type}{enc:α->List Value}{ops:Array Oper}{rest:List Oper}{o:Oper}{a:Go.Act}{Q:Exit->Go.Act->World->Prop}(hgd:o.guard=none)(s x:Operand)(t e:TypeId)
  (ho:o.op=.call {callee:=.builtin .append,args:=#[s,x],argTypes:=#[t,t]}) (aO:Nat) (z:Value) (size bytes:Nat) (ht:P.underlying t=some (.slice e)) (hi:Elem P e z size bytes)
  (hzs:z.cells.size=size) (hsz:0<size) (hby:bytes<=64) (v:Value) (l m:List α) (hs:a.eval s=v) (lC:Own enc size e w aO v l)
  (A:Option Addr) (c B:Nat) (hx:a.eval x=.slice A m.length c) (hk:∀y,(enc y).length=size) (hA:At w B A (m.flatMap enc)) (h1:∀y,∀u∈enc y,u.oneCell'=true)
  (hn:l.length+m.length<=1000000) (rV:aO<=w.heap.size)
  (h:∀v' w',Own enc size e w' aO v' (l++m)->w.grownBy w' v.ownBlock->(v'.ownBlock=v.ownBlock\/v'.ownBlock=some w.heap.size)->Below aO w w'->wpList P ops Q rest (a.put o.dst v') w'):
  wpList P ops Q (o::rest) a w:=by
 obtain⟨i,hi,hz,G8,hbytes⟩:=hi;have hb:(l.length+m.length)*bytes<=140737488355328:=aY (uV hn hby) (by decide)
 have hsplit:(A=none/\m.length=0)\/∃ad:Addr,A=some ad/\∀j u,(m.flatMap enc)[j]?=some u->w.cell? (ad.add j)=some u:=by
  rcases uQ m.length with h0|h0
  ·obtain rfl:m=[]:=mP h0;cases A with
   |none=>exact .inl ⟨rfl,rfl⟩
   |some ad=>exact .inr ⟨ad,rfl,by simp⟩
  ·have hp:0<(m.flatMap enc).length:=by rw[kL enc size hk];exact Et h0 hsz
   have he:=(hA.ok hp).eq;refine .inr ⟨_,he,λj u hj=>?_⟩
   rw[gU];exact hA.cell hj
 rcases hsplit with⟨rfl,h0⟩|⟨ad,rfl,hcells⟩
 ·obtain rfl:m=[]:=mP h0;refine jv hgd λK hK=>?_
  have hr:=run_append_nil (P:=P) w aO t o.type e i size ht hi v l.length _ lC c;unfold Oper.wp execOp;simp only[dY]at hx
  simp only[ho,resolve,invoke,builtin,jg,jw,iC,kJ,dn,jL,hs,hx,hr];exact hK _ _ (h v w (by rw[iJ];exact lC) (yO w _) (.inl rfl) (aj _ _))
 ·refine wpList_append_own_at w hgd s x t ho aO e i z size bytes ht hi hz G8 hbytes hzs hsz v l.length _ hs lC ad m.length c (m.flatMap enc) hx (kL enc size hk m) hcells
   (λu hu=>by obtain⟨y,_,hy⟩:=oL.1 hu;exact h1 y u hy) (by unfold maxLen;omega) hb rV ?_
  intro v' w' h2 h3 _ h5;refine h v' w' ?_ h3 h5 ((aj _ _).grown h3 rV λk hk=>(nK lC k hk).1)
  unfold Own;rw[aZ,gy];exact h2
end
section
variable {α:Type} {enc:α→List Value} {size:Nat} {e:TypeId} {w w':World} {aO:Nat} {v:Value} {l:List α}
theorem Own.VQ(w:World)(e:TypeId)(hb:aO<=w.heap.size):Own enc size e (w.alloc (.cells #[] e)) aO (.slice (some ⟨w.heap.size,0,none⟩) 0 0) []:=
 World.ownsRow_made w #[] 0 hb (aK _) (by simp)
theorem Own.lit(w:World)(e:TypeId)(cs:Array Value)(l:List α)(hb:aO<=w.heap.size)(hm:l.length<=1000000)(hk:∀x,(enc x).length=size)(hc:cs.toList=l.flatMap enc):
  Own enc size e (w.alloc (.cells cs e)) aO (.slice (some ⟨w.heap.size,0,none⟩) l.length l.length) l:=by
 have hs:cs.size=l.length*size:=by rw[<- nG,hc,kL enc size hk]
 have:=World.ownsRow_lit (e:=e) w cs l.length hb (by unfold maxLen;omega) hs
 rw[hc]at this
 exact this
theorem Own.kept{row:Option Nat}(h:Own enc size e w aO v l)(hg:w.grownBy w' row)(hne:v.ownBlock=none\/v.ownBlock≠row):Own enc size e w' aO v l:=World.ownsRow.kept h hg hne
theorem Own.block(h:Own enc size e w aO v l){g:Nat}(hg:v.ownBlock=some g):∃cur,w.heap[g]?=some (.cells cur e (0,0)):=by
 rcases h.2 with⟨rfl,_⟩|⟨g',cap,cur,rfl,_,hh,_⟩
 ·simp[Value.ownBlock]at hg
 ·simp[Value.ownBlock]at hg
  subst hg;exact⟨cur,hh⟩
theorem Own.some_(h:Own enc size e w aO v l)(hl:0<l.length):∃g c,v=.slice (some ⟨g,0,none⟩) l.length c/\aO<=g/\g<w.heap.size:=by
 rcases h.2 with⟨_,h0⟩|⟨g,cap,cur,h1,h2,h3,_⟩
 ·omega
 ·exact⟨g,cap,h1,h2,(bJ.1 h3).1⟩
theorem Own.apart{β:Type}{enc':β->List Value}{size':Nat}{e':TypeId}{base':Nat}{v':Value}{l':List β}(h:Own enc size e w aO v l)(h':Own enc' size' e' w base' v' l')(hne:e≠e'):
  v.ownBlock=none\/v.ownBlock≠v'.ownBlock:=by
 cases hv:v.ownBlock with
 |none=>exact .inl rfl
 |some g=>
  refine .inr λhe=>?_
  obtain⟨c1,h1⟩:=h.block hv;obtain⟨c2,h2⟩:=h'.block he.symm;rw[h1]at h2
  injection h2 with h2
  injection h2 with _ h3
  exact hne h3
end
def Xt(E2 E1:TypeId)(w:World)(aO:Nat)(v:Value)(l:List (List Int))(gs:List Nat)(vs:List Value):Prop:=
 Own (λu:Value=>[u]) 1 E2 w aO v vs/\vs.length=l.length/\gs.length=l.length/\gs.Nodup/\
  ∀(i:Nat) (x:List Int),l[i]?=some x->∃g c,vs[i]?=some (.slice (some ⟨g,0,none⟩) x.length c)/\gs[i]?=some g/\Own jJ 1 E1 w aO (.slice (some ⟨g,0,none⟩) x.length c) x
def qM(E2 E1:TypeId)(w:World)(aO:Nat)(v:Value)(l:List (List Int))(gs:List Nat):Prop:=∃vs,Xt E2 E1 w aO v l gs vs
section
variable {E2 E1:TypeId} {w w':World} {aO:Nat} {v:Value} {l:List (List Int)} {gs:List Nat}
theorem qM.nil:qM E2 E1 w aO (.slice none 0 0) [] []:=⟨[],Own.nil,rfl,rfl,List.nodup_nil,λi x h=>by simp at h⟩
theorem qM.below(h:qM E2 E1 w aO v l gs)(hb:Below w.heap.size w w'):qM E2 E1 w' aO v l gs:=
 let ⟨vs,h1,h2,h3,h4,h5⟩:=h
 ⟨vs,h1.below hb,h2,h3,h4,λi x hi=>let ⟨g,c,e1,e2,e3⟩:=h5 i x hi;⟨g,c,e1,e2,e3.below hb⟩⟩
theorem qM.from_{base':Nat}(h:qM E2 E1 w aO v l gs)(hb:base'<=aO):qM E2 E1 w base' v l gs:=
 let ⟨vs,h1,h2,h3,h4,h5⟩:=h
 ⟨vs,h1.from_ hb,h2,h3,h4,λi x hi=>let ⟨g,c,e1,e2,e3⟩:=h5 i x hi;⟨g,c,e1,e2,e3.from_ hb⟩⟩
theorem qM.mem(h:qM E2 E1 w aO v l gs){g:Nat}(hg:g∈gs):aO<=g/\g<w.heap.size:=by
 obtain⟨vs,h1,h2,h3,h4,h5⟩:=h;obtain⟨i,hi,rfl⟩:=aV hg;obtain⟨g,c,e1,e2,e3⟩:=h5 i l[i] (by simp[<- h3,hi])
 rw[bf hi]at e2
 injection e2 with e2
 rw[e2];exact e3.size g rfl
theorem Xt.push(hE:E1≠E2){vs:List Value}(h:Xt E2 E1 w aO v l gs vs){w1 w2:World}{v':Value}{x:List Int}{g c:Nat}(hw:Below w.heap.size w w1)(hg:w.heap.size<=g)
  (hu:Own jJ 1 E1 w1 aO (.slice (some ⟨g,0,none⟩) x.length c) x) (hgrow:w1.grownBy w2 v.ownBlock)
  (lC:Own (λu:Value=>[u]) 1 E2 w2 aO v' (vs++[.slice (some ⟨g,0,none⟩) x.length c])):
  qM E2 E1 w2 aO v' (l++[x]) (gs++[g]):=by
 have hmem:=λg' (hg':g'∈gs)=>qM.mem ⟨vs,h⟩ hg'
 obtain⟨h1,h2,h3,h4,h5⟩:=h;have keep:∀ {y:List Int} {g' c':Nat},Own jJ 1 E1 w1 aO (.slice (some ⟨g',0,none⟩) y.length c') y->Own jJ 1 E1 w2 aO (.slice (some ⟨g',0,none⟩) y.length c') y:=
  λhy=>hy.kept hgrow (Own.apart hy (h1.below hw) hE)
 refine⟨_,lC,by simp[h2],by simp[h3],?_,λi y hi=>?_⟩
 ·rw[List.nodup_append];refine⟨h4,by simp,λa ha b hb=>?_⟩
  obtain rfl:=iP.1 hb;have:=(hmem a ha).2;omega
 ·by_cases hlt:i<l.length
  ·rw[fE hlt]at hi
   obtain⟨g',c',e1,e2,e3⟩:=h5 i y hi;exact⟨g',c',by rw[fE (by omega)];exact e1,by rw[fE (by omega)];exact e2,keep (e3.below hw)⟩
  ·rw[jX (by omega)]at hi
   have hi0:i - l.length=0:=by
    rcases uQ (i - l.length)with h0|h0
    ·exact h0
    ·rw[kZ (by simp;omega)]at hi;simp at hi
   rw[hi0]at hi
   simp at hi
   subst hi;exact⟨g,c,by rw[jX (by omega)];simp[h2,hi0],by rw[jX (by omega)];simp[h3,hi0],keep hu⟩
end
end Wh
namespace Wh
open Go Go.RowKit
def iV(w:World)(g:Nat)(e:TypeId)(cur:List Value):Prop:=w.heap[g]?=some (.cells cur.toArray e (0,0))
def spl(L:List Value)(o:Nat)(cs:List Value):List Value:=L.take o++cs++L.drop (o+cs.length)
theorem zG{L:List Value}{o:Nat}{cs:List Value}(h:o+cs.length<=L.length):(spl L o cs).length=L.length:=by
 unfold spl;simp only[aZ,bT,fQ];omega
theorem Zq{L:List Value}{o:Nat}{cs:List Value}(h:o<=L.length):(spl L o cs).take o=L.take o:=by
 unfold spl;rw[eH,oG (by rw[bT];omega),oC,Nat.min_self]
theorem Zr{L:List Value}{o:Nat}{cs:List Value}(h:o<=L.length):(spl L o cs).take (o+cs.length)=L.take o++cs:=by
 unfold spl;rw[oG (by rw[aZ,bT];omega),kN (by rw[aZ,bT];omega)]
section
variable {w:World} {g:Nat} {e:TypeId} {cur:List Value}
theorem iV.lt(h:iV w g e cur):g<w.heap.size:=(bJ.1 h).1
theorem iV.cell(h:iV w g e cur){j:Nat}{v:Value}(hj:cur[j]?=some v):w.cell? ⟨g,j,none⟩=some v:=by
 unfold iV at h
 simp[World.cell?,h,hj]
theorem iV.row(h:iV w g e cur)(cs:List Value):iV (w.setRow g cs.toArray) g e cs:=setRow_heap w g _ _ _ _ h
theorem iV.other(h:iV w g e cur){g':Nat}(hne:g≠g')(cs:Array Value):iV (w.setRow g' cs) g e cur:=by
 unfold iV at*
 rw[DT w g' g cs hne];exact h
theorem iV.drew(h:iV w g e cur):iV w.drew g e cur:=h
theorem iV.alloc(h:iV w g e cur)(o:Obj):iV (w.alloc o) g e cur:=by
 unfold iV at*
 rw[wV _ _ _ (bJ.1 h).1]
 exact h
theorem iV.new(w:World)(e:TypeId)(cs:Array Value):iV (w.alloc (.cells cs e)) w.heap.size e cs.toList:=by
 show(w.heap.push (.cells cs e))[w.heap.size]?=_;rw[Array.getElem?_push_size]
theorem iV.below(h:iV w g e cur){B:Nat}{w':World}(hb:Below B w w')(hg:g<B):iV w' g e cur:=(hb.block g hg).trans h
theorem iV.grown(h:iV w g e cur){w':World}{row:Option Nat}(hg:w.grownBy w' row)(hne:some g≠row):iV w' g e cur:=(hg.block g h.lt hne).trans h
theorem iV.shape(h:iV w g e cur):w.shape? g=some (e,cur.length):=by
 unfold iV at h
 simp[World.shape?,h]
theorem iV.frozen(h:iV w g e cur)(o:Nat):w.frozen? ⟨g,o,none⟩=false:=by
 unfold iV at h
 simp[World.frozen?,h]
theorem yU(w:World)(g:Nat)(cs:Array Value):w.grownBy (w.setRow g cs) (some g):=
 ⟨rfl,rfl,rfl,by simp[World.setRow],λk _ hne=>DT w g k cs (λe=>hne (by rw[e]))⟩
theorem DL{B g:Nat}{w0 w:World}(hb:Below B w0 w)(hBg:B<=g)(cs:Array Value):Below B w0 (w.setRow g cs):=
 hb.trans ⟨rfl,rfl,rfl,by simp[World.setRow],λk hk=>DT w g k cs (by omega)⟩
end
section
variable {P:Program} (w:World)
theorem Il(dT sT ty elem:TypeId)(k g o dLen dCap:Nat)(a:Addr)(sLen sCap:Nat)(cur:List Value)(t:TypeId)(cs:List Value)
  (hu:P.underlying dT=some (.slice elem)) (hs:(P.info? elem).map (·.size)=some k)
  (hg:iV w g t cur) (n:Nat) (hm:Nat.min sLen dLen=n) (hn:cs.length=n*k)
  (hsrc:∀j v,cs[j]?=some v->w.cell? (a.add j)=some v) (hfit:o+cs.length<=cur.length) (h1:∀v∈cs,v.oneCell'=true):
  (Builtin.copy_ #[dT,sT] ty #[.slice (some ⟨g,o,none⟩) dLen dCap,.slice (some a) sLen sCap]).run P w=
   .ok (goInt n) (w.setRow g (spl cur o cs).toArray):=by
 have hl:=qP (P:=P) w k n a sLen sCap cs hn hsrc;have hst:=vY P g o t cs 0 cur.toArray w hg (by simpa using hfit) h1
 cases hq:P.info? elem with
 |none=>simp[hq]at hs
 |some i=>
  have hi:i.size=k:=by simpa[hq]using hs
  subst hi;simp only[Builtin.copy_,jg,qy hu,iC,Builtin.lenOf,jw,Go.sizeOf,typeInfo,Bj,oN,vw,run_program,hq,hm,hl,hst]
  simp[spl]
theorem NC(t ty e:TypeId)(i:TypeInfo)(ht:P.underlying t=some (.slice e))(hi:P.info? e=some i)(g n cap:Nat)(x:Value)(m:Nat)(cs:List Value)(cur:List Value)
  (hg:iV w g e cur) (kD:Builtin.lenOf x=Sem.pure m) (hx:(Builtin.firstCells i.size m x).run P w=.ok cs.toArray w) (hroom:n+m<=cap) (hfit:n*i.size+cs.length<=cur.length) (h1:∀v∈cs,v.oneCell'=true):
  (Builtin.append_ #[t,t] ty #[.slice (some ⟨g,0,none⟩) n cap,x]).run P w=.ok (.slice (some ⟨g,0,none⟩) (n+m) cap) (w.setRow g (spl cur (n*i.size) cs).toArray):=by
 have hst:=vY P g (n*i.size) e cs 0 cur.toArray w hg (by simpa using hfit) h1
 simp[Builtin.append_,qy ht,Go.sizeOf,typeInfo,hi,kD,hroom,hx,gU,hst,spl]
theorem xK(z:Array Value)(n:Nat):(Builtin.zeroCells z n).size=n*z.size:=by simp[Builtin.zeroCells]
theorem Xx{z:Array Value}(h:∀v∈z,v.oneCell'=true)(n:Nat):∀v∈(Builtin.zeroCells z n).toList,v.oneCell'=true:=by
 intro v hv;simp only[Builtin.zeroCells,Array.toList_map,kV,Array.mem_toList_iff,Array.mem_range]at hv
 obtain⟨j,hj,rfl⟩:=hv;have hz:0<z.size:=by
  rcases uQ z.size with h0|h0
  ·rw[h0]at hj;simp at hj
  ·exact h0
 have hjm:=Nat.mod_lt j hz;rw[getElem!_pos z (j%z.size) hjm];exact h _ (Array.getElem_mem hjm)
theorem Kr(t e ty:TypeId)(z:Value)(ht:P.underlying t=some (.slice e))(hv:∀w,(zeroValue e).run P w=.ok z w)(h1:∀v∈z.cells,v.oneCell'=true)(g o n c:Nat)(cur:List Value)
  (hg:iV w g e cur) (hn:0<n) (hfit:o+n*z.cells.size<=cur.length):
  (Builtin.clear_ #[t] ty #[.slice (some ⟨g,o,none⟩) n c]).run P w=.ok (.tuple #[]) (w.setRow g (spl cur o (Builtin.zeroCells z.cells n).toList).toArray):=by
 have hst:=vY P g o e (Builtin.zeroCells z.cells n).toList 0 cur.toArray w hg (by simpa[xK]using hfit) (Xx h1 n)
 obtain⟨m,rfl⟩:∃m,n=m+1:=⟨n - 1,by omega⟩
 simp only[Builtin.clear_,jg,Bj,oN,qy ht,iC,hv,hst]
 simp[spl]
theorem qV{ops:Array Oper}{o:Oper}{a:Act}{K:Act->World->Prop}{Q:Exit->Act->World->Prop}{E:Prop}
  (hg:o.guard=none) (d x:Operand) (dT sT:TypeId) (hop:o.op=Op.call {callee:=Callee.builtin Builtin.append,args:=#[d,x],argTypes:=#[dT,sT]})
  (v u:Value) (hd:a.eval d=v) (hx:a.eval x=u) {v':Value} {w':World} (hr:(Builtin.append_ #[dT,sT] o.type #[v,u]).run P w=.ok v' w') (hK:K (a.put o.dst v') w'):
  if Region.wanted o (yielded ops a.tmps)=true then Oper.wp P o a w K Q else E:=by
 have hw:Region.wanted o (yielded ops a.tmps)=true:=by simp[Region.wanted,hg]
 rw[aB hw];unfold Oper.wp;simp[execOp,hop,resolve,invoke,builtin,hd,hx,hr,Result.andThen]
 exact hK
theorem QY{ops:Array Oper}{o:Oper}{a:Act}{K:Act->World->Prop}{Q:Exit->Act->World->Prop}{E:Prop}
  (hg:o.guard=none) (d x:Operand) (dT sT:TypeId) (hop:o.op=Op.call {callee:=Callee.builtin Builtin.copy,args:=#[d,x],argTypes:=#[dT,sT]})
  (v u:Value) (hd:a.eval d=v) (hx:a.eval x=u) {v':Value} {w':World} (hr:(Builtin.copy_ #[dT,sT] o.type #[v,u]).run P w=.ok v' w') (hK:K (a.put o.dst v') w'):
  if Region.wanted o (yielded ops a.tmps)=true then Oper.wp P o a w K Q else E:=by
 have hw:Region.wanted o (yielded ops a.tmps)=true:=by simp[Region.wanted,hg]
 rw[aB hw];unfold Oper.wp;simp[execOp,hop,resolve,invoke,builtin,hd,hx,hr,Result.andThen]
 exact hK
theorem Ns{ops:Array Oper}{rest:List Oper}{o:Oper}{a:Act}{Q:Exit->Act->World->Prop}(hgd:o.guard=none)(d s:Operand)(t t':TypeId)
  (ho:o.op=.call {callee:=.builtin .copy,args:=#[d,s],argTypes:=#[t,t']}) (v u:Value) (hd:a.eval d=v) (hs:a.eval s=u) {v':Value} {w':World}
  (hr:(Builtin.copy_ #[t,t'] o.type #[v,u]).run P w=.ok v' w') (h:wpList P ops Q rest (a.put o.dst v') w'):wpList P ops Q (o::rest) a w:=
 jv hgd λK hK=>by
  unfold Oper.wp execOp;simp only[ho,resolve,invoke,builtin,jg,jw,iC,kJ,dn,jL,hd,hs,hr];exact hK _ _ h
end
theorem Gv{α:Type}(enc:α->List Value)(k:Nat)(hk:∀x,(enc x).length=k):∀(l:List α) (i:Nat),(l.flatMap enc).take (i*k)=(l.take i).flatMap enc
 |[],i=>by simp
 |x::l,0=>by simp
 |x::l,i+1=>by
  rw[kR,bC,kR,<- Gv enc k hk l i,jaJ,kN (by rw[hk,ku];omega),hk]
  congr 2
  rw[ku];omega
theorem IL{α:Type}(enc:α->List Value)(k:Nat)(hk:∀x,(enc x).length=k):∀(l:List α) (i:Nat),(l.flatMap enc).drop (i*k)=(l.drop i).flatMap enc
 |[],i=>by simp
 |x::l,0=>by simp
 |x::l,i+1=>by
  rw[kR,eG,<- IL enc k hk l i,List.drop_append,Ae (by rw[hk,ku];omega),hk,iy]
  congr 1
  rw[ku];omega
section
variable {α:Type} {enc:α→List Value} {size:Nat} {e:TypeId} {w:World} {aO:Nat} {v:Value} {l:List α}
theorem Own.row(h:Own enc size e w aO v l)(hl:0<l.length):
  ∃g cap cur,v=.slice (some ⟨g,0,none⟩) l.length cap/\aO<=g/\iV w g e cur/\l.length<=cap/\cap<=maxLen/\cur.length=cap*size/\cur.take (l.length*size)=l.flatMap enc:=by
 rcases h.2 with⟨_,h0⟩|⟨g,cap,cur,h1,h2,h3,h4,h5,h6,h7⟩
 ·omega
 ·exact⟨g,cap,cur.toList,h1,h2,by unfold iV;simpa using h3,h4,h5,by simpa using h6,h7⟩
theorem Own.NH(hk:∀x,(enc x).length=size){g cap:Nat}{cur:List Value}(hb:aO<=g)(hg:iV w g e cur)(h1:l.length<=cap)(h2:cap<=maxLen)(h3:cur.length=cap*size)(h4:cur.take (l.length*size)=l.flatMap enc):
  Own enc size e w aO (.slice (some ⟨g,0,none⟩) l.length cap) l:=
 ⟨kL enc size hk l,.inr ⟨g,cap,cur.toArray,rfl,hb,hg,h1,h2,by simpa using h3,by simpa using h4⟩⟩
end
theorem jjm{α:Type}(enc:α->List Value)(k:Nat)(hk:∀x,(enc x).length=k){l:List α}{i j:Nat}(hi:i<l.length)(hj:j<k){y:α}{u:Value}(hy:enc y=(enc l[i]).set j u):(l.set i y).flatMap enc=(l.flatMap enc).set (i*k+j) u:=by
 induction l generalizing i with
 |nil=>simp at hi
 |cons x l ih=>
  cases i with
  |zero=>
   simp only[dF,kR,DU,eY];simp only[Ac]at hy
   rw[hy,List.set_append_left _ _ (by rw[hk];exact hj)]
  |succ i=>
   simp only[dL,kR];simp only[rQ]at hy
   rw[ih (by simpa using hi) hy,mG _ _ (by rw[hk,ku];omega),hk]
   congr 2
   rw[ku];omega
theorem Own.store{α:Type}{enc:α->List Value}{size:Nat}{e:TypeId}{w:World}{aO:Nat}{l:List α}{g n c:Nat}(h:Own enc size e w aO (.slice (some ⟨g,0,none⟩) n c) l)(hk:∀x,(enc x).length=size)
  {i j:Nat} (hi:i<l.length) (hj:j<size) {y:α} {u:Value} (hy:enc y=(enc l[i]).set j u):
  Own enc size e (w.setCell ⟨g,i*size+j,none⟩ u) aO (.slice (some ⟨g,0,none⟩) n c) (l.set i y)/\w.grownBy (w.setCell ⟨g,i*size+j,none⟩ u) (some g):=by
 obtain⟨A,c',hv⟩:=h.isSlice;injection hv with h1 h2 h3
 subst h2;obtain⟨s1,s2⟩:=World.ownsRow.stored h (i*size+j) u;refine⟨?_,s2⟩
 unfold Own;rw[jU,jjm enc size hk hi hj hy];exact s1
theorem uF(w:World)(cs:Array Value)(e:TypeId):∀j u,cs.toList[j]?=some u->(w.alloc (.cells cs e)).cell? ((⟨w.heap.size,0,none⟩:Addr).add j)=some u:=λj u hj=>by
 rw[gU,eY];exact(iV.new w e cs).cell hj
end Wh
namespace Wh
open Go Go.RowKit Go.Shelf Go.Proofs Tryz
attribute [local go_sem] aT
theorem oH(n lo hi:Int)(w:World):
  Calls prog 38 #[.int .i64 n,.int .i64 lo,.int .i64 hi] w λe w'=>e=.returned (.bool (cZ n lo hi))/\w=w':=by
 go_enter func38,ntmps38
 by_cases h1:lo<=n
 ·by_cases h2:n<=hi
  ·go_wp2
   go_ret
   exact⟨by simp[cZ,h1,h2],rfl⟩
  ·go_wp2
   go_ret
   exact⟨by simp[cZ];omega,rfl⟩
 ·go_wp2
  go_ret
  exact⟨by simp[cZ];omega,rfl⟩
theorem Vy(w:World)(v:Value)(p:dA)(hp:mW w w.heap.size v p):
  Calls prog 34 #[v] w λe w'=>e=.returned (.int .i64 (gQ p))/\Below w.heap.size w w':=by
 obtain⟨_,_,rfl,⟨Ab,cb,rfl,hlb,hb⟩,⟨As,cs,rfl,hls,hs⟩⟩:=hp;have hb0:Below w.heap.size w (w.alloc (.cells #[.slice Ab p.bQ.length cb,.slice As p.aP.length cs] 25)):=(aj _ _).alloc (au _) _;go_enter func34,ntmps34
 cases h1:cZ p.bQ.length 1 6
 ·go_wp2_with (go_at_call 38;refine(oH _ _ _ _).mono ?_;rintro e w' ⟨rfl,rfl⟩)
  go_ret
  exact⟨iF (GN (.inl h1)).symm,hb0⟩
 cases h2:cZ p.aP.length 1 3
 ·go_wp2_with (go_at_call 38;refine(oH _ _ _ _).mono ?_;rintro e w' ⟨rfl,rfl⟩)
  go_ret
  exact⟨iF (GN (.inr h2)).symm,hb0⟩
 go_wp2_with (go_at_call 38;refine(oH _ _ _ _).mono ?_;rintro e w' ⟨rfl,rfl⟩)
 go_loopw[3] (λi wr=>∃k:Nat,k<=p.bQ.length/\i=.int .i64 k/\(∀j,j<k->BX (l9 p.bQ j)=true)/\Below w.heap.size w wr/\w.heap.size<wr.heap.size/\wr.cell? ⟨w.heap.size,0,none⟩=some (.slice Ab p.bQ.length cb)/\wr.cell? ⟨w.heap.size,1,none⟩=some (.slice As p.aP.length cs)) (λi _=>p.bQ.length - (RowKit.intOf i).toNat)
 case atStart=>exact⟨0,aK _,rfl,λj hj=>by omega,hb0,by simp,by simp,by simp⟩
 case round=>
  obtain⟨k,hk,rfl,kE,hbw,hsz,hc0,hc1⟩:=hrel;by_cases hlt:k<p.bQ.length
  ·obtain⟨hA,LG,b0,b1,b2,b3⟩:=(hb.up hbw hbw.size).bin hlt;rcases Un (l9 p.bQ k)with⟨g1,hno⟩|⟨g1,g2,hno⟩|⟨g1,g2,g3,hno⟩|⟨g1,g2,g3,hyes⟩
   ·go_wp2_with (go_at_call 38;refine(oH _ _ _ _).mono ?_;rintro e w' ⟨rfl,rfl⟩)
    go_ret
    exact⟨iF (KG h1 h2 hlt hno).symm,hbw.alloc hbw.size _⟩
   ·go_wp2_with (go_at_call 38;refine(oH _ _ _ _).mono ?_;rintro e w' ⟨rfl,rfl⟩)
    go_ret
    exact⟨iF (KG h1 h2 hlt hno).symm,hbw.alloc hbw.size _⟩
   ·go_wp2_with (go_at_call 38;refine(oH _ _ _ _).mono ?_;rintro e w' ⟨rfl,rfl⟩)
    go_ret
    exact⟨iF (KG h1 h2 hlt hno).symm,hbw.alloc hbw.size _⟩
   ·go_wp2_with (go_at_call 38;refine(oH _ _ _ _).mono ?_;rintro e w' ⟨rfl,rfl⟩)
    go_roundw
    case rel=>
     refine⟨k+1,by omega,by go_num,λj hj=>?_,hbw.alloc hbw.size _,by simp;omega,?_,?_⟩
     ·rcases aS.1 hj with h|rfl
      ·exact kE j h
      ·exact hyes
     ·rw[sZ _ _ _ hsz];exact hc0
     ·rw[sZ _ _ _ hsz];exact hc1
    case measure=>simp[RowKit.intOf];omega
  ·obtain rfl:k=p.bQ.length:=by omega
   have hsn:=hs.up hbw hbw.size;go_wp2_with (go_at_call 38;refine(oH _ _ _ _).mono ?_;rintro e w' ⟨rfl,rfl⟩)
   go_loop[5] (λi=>∃k:Nat,k<=p.aP.length/\i=.int .i64 k/\(∀j,j<k->Ew (bI p.aP j)=true)) (λi=>p.aP.length - (RowKit.intOf i).toNat)
   case atStart=>exact⟨0,aK _,rfl,λj hj=>by omega⟩
   case round=>
    obtain⟨k,hk,rfl,jb9⟩:=hrel;by_cases hlt:k<p.aP.length
    ·obtain⟨hA,LG,b0⟩:=hsn.int hlt;cases g1:cZ (bI p.aP k) 1 9
     ·go_wp2_with (go_at_call 38;refine(oH _ _ _ _).mono ?_;rintro e w' ⟨rfl,rfl⟩)
      go_ret
      exact⟨iF (Jv h1 h2 hlt g1).symm,hbw⟩
     ·go_wp2_with (go_at_call 38;refine(oH _ _ _ _).mono ?_;rintro e w' ⟨rfl,rfl⟩)
      go_round
      case rel=>
       refine⟨k+1,by omega,by go_num,λj hj=>?_⟩
       rcases aS.1 hj with h|rfl
       ·exact jb9 j h
       ·exact g1
      case measure=>simp[RowKit.intOf];omega
    ·obtain rfl:k=p.aP.length:=by omega
     go_wp2_with (go_at_call 38;refine(oH _ _ _ _).mono ?_;rintro e w' ⟨rfl,rfl⟩)
     go_ret
     exact⟨iF (RU h1 h2 kE jb9).symm,hbw⟩
end Wh
namespace Wh
open Go Go.RowKit Go.Shelf Go.Proofs Tryz
attribute [local go_sem] aT
theorem jg1(w:World)(v:Value)(l:List Int)(hv:Sl jJ w w.heap.size v l)(hn:0<l.length):
  Calls prog 128 #[v] w λe w'=>e=.returned (.int .i64 (CY l))/\w=w':=by
 obtain⟨A,c,rfl,hl,hA⟩:=hv;obtain⟨hok,LG,b0⟩:=hA.int hn;have hn':1<=l.length:=hn;simp only[jB]at b0
 go_enter func128,ntmps128
 go_wp2_with fail;go_loop[3,4] (λm i=>∃k:Nat,k+1<=l.length/\i=.int .i64 (k+1:Nat)/\m=.int .i64 (YK (bI l) k)) (λ_ i=>l.length - (RowKit.intOf i).toNat)
 case atStart=>exact⟨0,hn',rfl,rfl⟩
 case round=>
  obtain⟨k,hk,rfl,rfl⟩:=hrel;by_cases hlt:k+1<l.length
  ·obtain⟨_,_,b1⟩:=hA.int hlt;go_wp2_with fail;go_round
   case rel=>exact⟨k+1,by omega,by go_num,by rw[YK];first|done|(congr 1;split<;>omega)⟩
   case measure=>simp[RowKit.intOf];omega
  ·obtain rfl:k=l.length - 1:=by omega
   go_wp2_with fail;go_ret
   exact⟨rfl,rfl⟩
theorem jg2(w:World)(v:Value)(l:List Int)(hv:Sl jJ w w.heap.size v l)(hn:0<l.length):
  Calls prog 129 #[v] w λe w'=>e=.returned (.int .i64 (yx l))/\w=w':=by
 obtain⟨A,c,rfl,hl,hA⟩:=hv;obtain⟨hok,LG,b0⟩:=hA.int hn;have hn':1<=l.length:=hn;simp only[jB]at b0
 go_enter func129,ntmps129
 go_wp2_with fail;go_loop[3,4] (λm i=>∃k:Nat,k+1<=l.length/\i=.int .i64 (k+1:Nat)/\m=.int .i64 (YL (bI l) k)) (λ_ i=>l.length - (RowKit.intOf i).toNat)
 case atStart=>exact⟨0,hn',rfl,rfl⟩
 case round=>
  obtain⟨k,hk,rfl,rfl⟩:=hrel;by_cases hlt:k+1<l.length
  ·obtain⟨_,_,b1⟩:=hA.int hlt;go_wp2_with fail;go_round
   case rel=>exact⟨k+1,by omega,by go_num,by rw[YL];first|done|(congr 1;split<;>omega)⟩
   case measure=>simp[RowKit.intOf];omega
  ·obtain rfl:k=l.length - 1:=by omega
   go_wp2_with fail;go_ret
   exact⟨rfl,rfl⟩
end Wh
namespace Wh
open Go Go.RowKit Go.Shelf Go.Proofs Tryz
attribute [local go_sem] aT
theorem ZW(w:World)(v:Value)(l:List Bin)(g:FuncId)(lb:Array Value)(pred:Bin->Bool)(eg:Enters prog g)(hv:Sl PG w w.heap.size v l)
  (hf:∀k,k<l.length->∀W,Below w.heap.size w W->Calls prog g (#[jj8 (l9 l k)]++lb) W λe W'=>e=.returned (.bool (pred (l9 l k)))/\Below W.heap.size W W'):
  Calls prog 168 #[v,.func (.func g) #[] lb] w λe w'=>e=.returned (.int .i64 (idxOf pred l))/\Below w.heap.size w w':=by
 obtain⟨A,c,rfl,hl,hA⟩:=hv;have eg':∀args w,Sem.run prog (callFunc g args) w=.ok (.enter g args) w:=eg;go_enter func168,ntmps168
 go_wp2_with fail;go_loopw[5,8] (λ_ i wr=>∃k:Nat,k<=l.length/\i=.int .i64 k/\(∀j,j<k->pred (l9 l j)=false)/\Below w.heap.size w wr) (λ_ i _=>l.length - (RowKit.intOf i).toNat)
 case atStart=>exact⟨0,aK _,rfl,λj hj=>by omega,aj _ _⟩
 case round=>
  obtain⟨k,hk,rfl,kE,hbw⟩:=hrel;have hal:∀j (hj:j<k),pred (l[j]'(by omega))=false:=λj hj=>by have:=kE j hj;rwa [Jw (by omega)]at this
  by_cases hlt:k<l.length
  ·obtain⟨hok,LG,b0,b1,b2,b3⟩:=(hA.up hbw hbw.size).bin hlt;go_wp2_with fail;refine(hf k hlt _ hbw).mono ?_
   rintro e W1 ⟨rfl,hb1⟩;have sF:=hbw.trans (hb1.mono hbw.size);cases hp:pred (l9 l k)
   ·go_wp2_with fail;go_roundw
    case rel=>
     refine⟨k+1,by omega,by go_num,λj hj=>?_,sF⟩
     rcases aS.1 hj with h|rfl
     ·exact kE j h
     ·exact hp
    case measure=>simp[RowKit.intOf];omega
   ·go_wp2_with fail;go_ret
    exact⟨iF (KP hlt (by rw[Jw hlt]at hp;exact hp) hal),sF⟩
  ·obtain rfl:k=l.length:=by omega
   go_wp2_with fail;go_ret
   exact⟨iF (Gn λj hj=>by have:=kE j hj;rwa [Jw hj]at this),hbw⟩
theorem UF(w:World)(v:Value)(l:List Bin)(g:FuncId)(lb:Array Value)(pred:Bin->Bool)(eg:Enters prog g)(hv:Sl PG w w.heap.size v l)
  (hf:∀k,k<l.length->∀W,Below w.heap.size w W->Calls prog g (#[jj8 (l9 l k)]++lb) W λe W'=>e=.returned (.bool (pred (l9 l k)))/\Below W.heap.size W W'):
  Calls prog 148 #[v,.func (.func g) #[] lb] w λe w'=>e=.returned (.bool (l.any pred))/\Below w.heap.size w w':=by
 have H:=ah (ZW w v l g lb pred eg hv hf);clear hf;go_enter func148,ntmps148
 go_wp2_with fail;refine H.O.mono ?_
 rintro e W1 ⟨rfl,hb1⟩;go_wp2_with fail;go_ret
 exact⟨fK (IK pred l),hb1⟩
theorem XT(w:World)(v:Value)(l:List Line)(g:FuncId)(lb:Array Value)(pred:Line->Bool)(eg:Enters prog g)(hv:Sl kP w w.heap.size v l)
  (hf:∀k,k<l.length->∀W,Below w.heap.size w W->Calls prog g (#[I5 (gK l k)]++lb) W λe W'=>e=.returned (.bool (pred (gK l k)))/\Below W.heap.size W W'):
  Calls prog 152 #[v,.func (.func g) #[] lb] w λe w'=>e=.returned (.int .i64 (idxOf pred l))/\Below w.heap.size w w':=by
 obtain⟨A,c,rfl,hl,hA⟩:=hv;have eg':∀args w,Sem.run prog (callFunc g args) w=.ok (.enter g args) w:=eg;go_enter func152,ntmps152
 go_wp2_with fail;go_loopw[5,8] (λ_ i wr=>∃k:Nat,k<=l.length/\i=.int .i64 k/\(∀j,j<k->pred (gK l j)=false)/\Below w.heap.size w wr) (λ_ i _=>l.length - (RowKit.intOf i).toNat)
 case atStart=>exact⟨0,aK _,rfl,λj hj=>by omega,aj _ _⟩
 case round=>
  obtain⟨k,hk,rfl,kE,hbw⟩:=hrel;have hal:∀j (hj:j<k),pred (l[j]'(by omega))=false:=λj hj=>by have:=kE j hj;rwa [qw (by omega)]at this
  by_cases hlt:k<l.length
  ·obtain⟨hok,LG,b0,b1,b2,b3⟩:=(hA.up hbw hbw.size).aG hlt;go_wp2_with fail;refine(hf k hlt _ hbw).mono ?_
   rintro e W1 ⟨rfl,hb1⟩;have sF:=hbw.trans (hb1.mono hbw.size);cases hp:pred (gK l k)
   ·go_wp2_with fail;go_roundw
    case rel=>
     refine⟨k+1,by omega,by go_num,λj hj=>?_,sF⟩
     rcases aS.1 hj with h|rfl
     ·exact kE j h
     ·exact hp
    case measure=>simp[RowKit.intOf];omega
   ·go_wp2_with fail;go_ret
    exact⟨iF (KP hlt (by rw[qw hlt]at hp;exact hp) hal),sF⟩
  ·obtain rfl:k=l.length:=by omega
   go_wp2_with fail;go_ret
   exact⟨iF (Gn λj hj=>by have:=kE j hj;rwa [qw hj]at this),hbw⟩
theorem xO(w:World)(v:Value)(l:List Line)(g:FuncId)(lb:Array Value)(pred:Line->Bool)(eg:Enters prog g)(hv:Sl kP w w.heap.size v l)
  (hf:∀k,k<l.length->∀W,Below w.heap.size w W->Calls prog g (#[I5 (gK l k)]++lb) W λe W'=>e=.returned (.bool (pred (gK l k)))/\Below W.heap.size W W'):
  Calls prog 95 #[v,.func (.func g) #[] lb] w λe w'=>e=.returned (.bool (l.any pred))/\Below w.heap.size w w':=by
 have H:=ah (XT w v l g lb pred eg hv hf);clear hf;go_enter func95,ntmps95
 go_wp2_with fail;refine H.O.mono ?_
 rintro e W1 ⟨rfl,hb1⟩;go_wp2_with fail;go_ret
 exact⟨fK (IK pred l),hb1⟩
theorem PX(w:World)(v:Value)(l:List dZ)(g:FuncId)(lb:Array Value)(pred:dZ->Bool)(eg:Enters prog g)(hv:Sl ig w w.heap.size v l)
  (hf:∀k,k<l.length->∀W,Below w.heap.size w W->Calls prog g (#[um (hold l k)]++lb) W λe W'=>e=.returned (.bool (pred (hold l k)))/\Below W.heap.size W W'):
  Calls prog 153 #[v,.func (.func g) #[] lb] w λe w'=>e=.returned (.int .i64 (idxOf pred l))/\Below w.heap.size w w':=by
 obtain⟨A,c,rfl,hl,hA⟩:=hv;have eg':∀args w,Sem.run prog (callFunc g args) w=.ok (.enter g args) w:=eg;go_enter func153,ntmps153
 go_wp2_with fail;go_loopw[5,8] (λ_ i wr=>∃k:Nat,k<=l.length/\i=.int .i64 k/\(∀j,j<k->pred (hold l j)=false)/\Below w.heap.size w wr) (λ_ i _=>l.length - (RowKit.intOf i).toNat)
 case atStart=>exact⟨0,aK _,rfl,λj hj=>by omega,aj _ _⟩
 case round=>
  obtain⟨k,hk,rfl,kE,hbw⟩:=hrel;have hal:∀j (hj:j<k),pred (l[j]'(by omega))=false:=λj hj=>by have:=kE j hj;rwa [iL (by omega)]at this
  by_cases hlt:k<l.length
  ·obtain⟨hok,LG,b0,b1,b2,b3⟩:=(hA.up hbw hbw.size).hold hlt;go_wp2_with fail;refine(hf k hlt _ hbw).mono ?_
   rintro e W1 ⟨rfl,hb1⟩;have sF:=hbw.trans (hb1.mono hbw.size);cases hp:pred (hold l k)
   ·go_wp2_with fail;go_roundw
    case rel=>
     refine⟨k+1,by omega,by go_num,λj hj=>?_,sF⟩
     rcases aS.1 hj with h|rfl
     ·exact kE j h
     ·exact hp
    case measure=>simp[RowKit.intOf];omega
   ·go_wp2_with fail;go_ret
    exact⟨iF (KP hlt (by rw[iL hlt]at hp;exact hp) hal),sF⟩
  ·obtain rfl:k=l.length:=by omega
   go_wp2_with fail;go_ret
   exact⟨iF (Gn λj hj=>by have:=kE j hj;rwa [iL hj]at this),hbw⟩
theorem Tn(w:World)(v:Value)(l:List dZ)(g:FuncId)(lb:Array Value)(pred:dZ->Bool)(eg:Enters prog g)(hv:Sl ig w w.heap.size v l)
  (hf:∀k,k<l.length->∀W,Below w.heap.size w W->Calls prog g (#[um (hold l k)]++lb) W λe W'=>e=.returned (.bool (pred (hold l k)))/\Below W.heap.size W W'):
  Calls prog 137 #[v,.func (.func g) #[] lb] w λe w'=>e=.returned (.bool (l.any pred))/\Below w.heap.size w w':=by
 have H:=ah (PX w v l g lb pred eg hv hf);clear hf;go_enter func137,ntmps137
 go_wp2_with fail;refine H.O.mono ?_
 rintro e W1 ⟨rfl,hb1⟩;go_wp2_with fail;go_ret
 exact⟨fK (IK pred l),hb1⟩
theorem PW(w:World)(v:Value)(l:List Move)(g:FuncId)(lb:Array Value)(pred:Move->Bool)(eg:Enters prog g)(hv:Sl nP w w.heap.size v l)
  (hf:∀k,k<l.length->∀W,Below w.heap.size w W->Calls prog g (#[D8 (bH l k)]++lb) W λe W'=>e=.returned (.bool (pred (bH l k)))/\Below W.heap.size W W'):
  Calls prog 159 #[v,.func (.func g) #[] lb] w λe w'=>e=.returned (.int .i64 (idxOf pred l))/\Below w.heap.size w w':=by
 obtain⟨A,c,rfl,hl,hA⟩:=hv;have eg':∀args w,Sem.run prog (callFunc g args) w=.ok (.enter g args) w:=eg;go_enter func159,ntmps159
 go_wp2_with fail;go_loopw[5,8] (λ_ i wr=>∃k:Nat,k<=l.length/\i=.int .i64 k/\(∀j,j<k->pred (bH l j)=false)/\Below w.heap.size w wr) (λ_ i _=>l.length - (RowKit.intOf i).toNat)
 case atStart=>exact⟨0,aK _,rfl,λj hj=>by omega,aj _ _⟩
 case round=>
  obtain⟨k,hk,rfl,kE,hbw⟩:=hrel;have hal:∀j (hj:j<k),pred (l[j]'(by omega))=false:=λj hj=>by have:=kE j hj;rwa [pI (by omega)]at this
  by_cases hlt:k<l.length
  ·obtain⟨hok,LG,b0,b1,b2,b3⟩:=(hA.up hbw hbw.size).move hlt;go_wp2_with fail;refine(hf k hlt _ hbw).mono ?_
   rintro e W1 ⟨rfl,hb1⟩;have sF:=hbw.trans (hb1.mono hbw.size);cases hp:pred (bH l k)
   ·go_wp2_with fail;go_roundw
    case rel=>
     refine⟨k+1,by omega,by go_num,λj hj=>?_,sF⟩
     rcases aS.1 hj with h|rfl
     ·exact kE j h
     ·exact hp
    case measure=>simp[RowKit.intOf];omega
   ·go_wp2_with fail;go_ret
    exact⟨iF (KP hlt (by rw[pI hlt]at hp;exact hp) hal),sF⟩
  ·obtain rfl:k=l.length:=by omega
   go_wp2_with fail;go_ret
   exact⟨iF (Gn λj hj=>by have:=kE j hj;rwa [pI hj]at this),hbw⟩
theorem Tm(w:World)(v:Value)(l:List Move)(g:FuncId)(lb:Array Value)(pred:Move->Bool)(eg:Enters prog g)(hv:Sl nP w w.heap.size v l)
  (hf:∀k,k<l.length->∀W,Below w.heap.size w W->Calls prog g (#[D8 (bH l k)]++lb) W λe W'=>e=.returned (.bool (pred (bH l k)))/\Below W.heap.size W W'):
  Calls prog 139 #[v,.func (.func g) #[] lb] w λe w'=>e=.returned (.bool (l.any pred))/\Below w.heap.size w w':=by
 have H:=ah (PW w v l g lb pred eg hv hf);clear hf;go_enter func139,ntmps139
 go_wp2_with fail;refine H.O.mono ?_
 rintro e W1 ⟨rfl,hb1⟩;go_wp2_with fail;go_ret
 exact⟨fK (IK pred l),hb1⟩
theorem ZV(w:World)(v:Value)(l:List (List Int))(g:FuncId)(lb:Array Value)(pred:(List Int)->Bool)(eg:Enters prog g)(hv:FW jJ w w.heap.size v l)
  (hf:∀k,k<l.length->∀W,Below w.heap.size w W->∀u,Sl jJ W W.heap.size u (fO l k)->Calls prog g (#[u]++lb) W λe W'=>e=.returned (.bool (pred (fO l k)))/\Below W.heap.size W W'):
  Calls prog 166 #[v,.func (.func g) #[] lb] w λe w'=>e=.returned (.int .i64 (idxOf pred l))/\Below w.heap.size w w':=by
 obtain⟨A,c,vs,rfl,hl,hvl,hA,G9⟩:=hv;have eg':∀args w,Sem.run prog (callFunc g args) w=.ok (.enter g args) w:=eg;go_enter func166,ntmps166
 go_wp2_with fail;go_loopw[5,8] (λ_ i wr=>∃k:Nat,k<=l.length/\i=.int .i64 k/\(∀j,j<k->pred (fO l j)=false)/\Below w.heap.size w wr) (λ_ i _=>l.length - (RowKit.intOf i).toNat)
 case atStart=>exact⟨0,aK _,rfl,λj hj=>by omega,aj _ _⟩
 case round=>
  obtain⟨k,hk,rfl,kE,hbw⟩:=hrel;have hal:∀j (hj:j<k),pred (l[j]'(by omega))=false:=λj hj=>by have:=kE j hj;rwa [xZ (by omega)]at this
  by_cases hlt:k<l.length
  ·obtain⟨A',c',hok,LG,hcu,hsu⟩:=(show FW jJ wr wr.heap.size _ l from FW.up ⟨A,c,vs,rfl,hl,hvl,hA,G9⟩ hbw hbw.size).row hlt
   go_wp2_with fail;refine(hf k hlt _ hbw _ hsu).mono ?_
   rintro e W1 ⟨rfl,hb1⟩;have sF:=hbw.trans (hb1.mono hbw.size);cases hp:pred (fO l k)
   ·go_wp2_with fail;go_roundw
    case rel=>
     refine⟨k+1,by omega,by go_num,λj hj=>?_,sF⟩
     rcases aS.1 hj with h|rfl
     ·exact kE j h
     ·exact hp
    case measure=>simp[RowKit.intOf];omega
   ·go_wp2_with fail;go_ret
    exact⟨iF (KP hlt (by rw[xZ hlt]at hp;exact hp) hal),sF⟩
  ·obtain rfl:k=l.length:=by omega
   go_wp2_with fail;go_ret
   exact⟨iF (Gn λj hj=>by have:=kE j hj;rwa [xZ hj]at this),hbw⟩
theorem UE(w:World)(v:Value)(l:List (List Int))(g:FuncId)(lb:Array Value)(pred:(List Int)->Bool)(eg:Enters prog g)(hv:FW jJ w w.heap.size v l)
  (hf:∀k,k<l.length->∀W,Below w.heap.size w W->∀u,Sl jJ W W.heap.size u (fO l k)->Calls prog g (#[u]++lb) W λe W'=>e=.returned (.bool (pred (fO l k)))/\Below W.heap.size W W'):
  Calls prog 130 #[v,.func (.func g) #[] lb] w λe w'=>e=.returned (.bool (l.any pred))/\Below w.heap.size w w':=by
 have H:=ah (ZV w v l g lb pred eg hv hf);clear hf;go_enter func130,ntmps130
 go_wp2_with fail;refine H.O.mono ?_
 rintro e W1 ⟨rfl,hb1⟩;go_wp2_with fail;go_ret
 exact⟨fK (IK pred l),hb1⟩
theorem VZ(w:World)(v:Value)(l:List Order)(g:FuncId)(lb:Array Value)(pred:Order->Bool)(eg:Enters prog g)(hv:nJ w w.heap.size v l)
  (hf:∀k,k<l.length->∀W,Below w.heap.size w W->∀u,Sl kP W W.heap.size u (aU l k).aH->Calls prog g (#[.agg #[.int .i64 (aU l k).dW,u]]++lb) W λe W'=>e=.returned (.bool (pred (aU l k)))/\Below W.heap.size W W'):
  Calls prog 131 #[v,.func (.func g) #[] lb] w λe w'=>e=.returned (.int .i64 (idxOf pred l))/\Below w.heap.size w w':=by
 obtain⟨A,c,vs,rfl,hl,hvl,hA,G9⟩:=hv;have eg':∀args w,Sem.run prog (callFunc g args) w=.ok (.enter g args) w:=eg;go_enter func131,ntmps131
 go_wp2_with fail;go_loopw[5,8] (λ_ i wr=>∃k:Nat,k<=l.length/\i=.int .i64 k/\(∀j,j<k->pred (aU l j)=false)/\Below w.heap.size w wr) (λ_ i _=>l.length - (RowKit.intOf i).toNat)
 case atStart=>exact⟨0,aK _,rfl,λj hj=>by omega,aj _ _⟩
 case round=>
  obtain⟨k,hk,rfl,kE,hbw⟩:=hrel;have hal:∀j (hj:j<k),pred (l[j]'(by omega))=false:=λj hj=>by have:=kE j hj;rwa [uy (by omega)]at this
  by_cases hlt:k<l.length
  ·obtain⟨A',c',hok,LG,hc0,hcu,hsu⟩:=(show nJ wr wr.heap.size _ l from nJ.up ⟨A,c,vs,rfl,hl,hvl,hA,G9⟩ hbw hbw.size).aC hlt
   go_wp2_with fail;refine(hf k hlt _ hbw _ hsu).mono ?_
   rintro e W1 ⟨rfl,hb1⟩;have sF:=hbw.trans (hb1.mono hbw.size);cases hp:pred (aU l k)
   ·go_wp2_with fail;go_roundw
    case rel=>
     refine⟨k+1,by omega,by go_num,λj hj=>?_,sF⟩
     rcases aS.1 hj with h|rfl
     ·exact kE j h
     ·exact hp
    case measure=>simp[RowKit.intOf];omega
   ·go_wp2_with fail;go_ret
    exact⟨iF (KP hlt (by rw[uy hlt]at hp;exact hp) hal),sF⟩
  ·obtain rfl:k=l.length:=by omega
   go_wp2_with fail;go_ret
   exact⟨iF (Gn λj hj=>by have:=kE j hj;rwa [uy hj]at this),hbw⟩
theorem RQ(w:World)(v:Value)(l:List Order)(g:FuncId)(lb:Array Value)(pred:Order->Bool)(eg:Enters prog g)(hv:nJ w w.heap.size v l)
  (hf:∀k,k<l.length->∀W,Below w.heap.size w W->∀u,Sl kP W W.heap.size u (aU l k).aH->Calls prog g (#[.agg #[.int .i64 (aU l k).dW,u]]++lb) W λe W'=>e=.returned (.bool (pred (aU l k)))/\Below W.heap.size W W'):
  Calls prog 76 #[v,.func (.func g) #[] lb] w λe w'=>e=.returned (.bool (l.any pred))/\Below w.heap.size w w':=by
 have H:=ah (VZ w v l g lb pred eg hv hf);clear hf;go_enter func76,ntmps76
 go_wp2_with fail;refine H.O.mono ?_
 rintro e W1 ⟨rfl,hb1⟩;go_wp2_with fail;go_ret
 exact⟨fK (IK pred l),hb1⟩
end Wh
namespace Wh
open Go Go.RowKit Go.Shelf Go.Proofs Tryz
attribute [local go_sem] aT
theorem L9:Elem prog 3 (.int .i64 0) 1 8:=Iu (by kernel_rfl)
theorem jmN(w:World)(v:Value)(p:dA)(hp:mW w w.heap.size v p)(hn:p.bQ.length<=100):
  Calls prog 126 #[v] w (Gives (λu w'=>Own jJ 1 3 w' w.heap.size u (x9 (way p))) w):=by
 obtain⟨_,_,rfl,⟨Ab,cb,rfl,hlb,hb⟩,⟨As,cs,rfl,hls,hs⟩⟩:=hp;have hb0:Below w.heap.size w (w.alloc (.cells #[.slice Ab p.bQ.length cb,.slice As p.aP.length cs] 25)):=(aj _ _).alloc (au _) _;go_enter func126,ntmps126
 go_wp2_with fail;go_loopw[3,4] (λu i wr=>∃k:Nat,k<=p.bQ.length/\i=.int .i64 k/\Own jJ 1 3 wr (w.heap.size+1) u (x9 (uT p true k))/\Below w.heap.size w wr/\w.heap.size<wr.heap.size/\wr.cell? ⟨w.heap.size,0,none⟩=some (.slice Ab p.bQ.length cb)) (λ_ i _=>p.bQ.length - (RowKit.intOf i).toNat)
 case atStart=>exact⟨0,aK _,rfl,Own.nil,hb0,by simp,by simp⟩
 case round=>
  obtain⟨k,hk,rfl,lC,hbw,hsz,hc0⟩:=hrel;by_cases hlt:k<p.bQ.length
  ·obtain⟨hok,LG,b0,b1,b2,b3⟩:=(hb.up hbw hbw.size).bin hlt;have hmax:k<=9223372036854775806:=by omega
   cases hf:(l9 p.bQ k).front
   ·go_wp2_with fail;go_roundw
    case rel=>exact⟨k+1,by omega,by go_num,by rw[Gi (by rw[hf];decide)];exact lC,hbw,hsz,hc0⟩
    case measure=>simp[RowKit.intOf];omega
   ·have kD:(x9 (uT p true k)).length<=1000000:=by rw[CV];have:=C9 p true k;omega
    go_wp2_with (at_builtin;refine aW ?_)
    unfold Hid;refine lS _ rfl (.tmp 19) (.tmp 21) 23 3 rfl (w.heap.size+1) _ 1 8 underlying23 L9 rfl (by decide) (by decide) u3 (x9 (uT p true k)) (k:Int) rfl (lC.alloc _) ⟨wr.heap.size,0,none⟩ 1 rfl rfl (cell_one_new _ _ _) (UU _) kD (by simp;omega) ?_
    intro v1 w1 yj hg1 jb7 FC;have sF:Below w.heap.size w w1:=(hbw.alloc hbw.size _).trans (FC.mono (by omega))
    have uZ:w.heap.size<w1.heap.size:=by have:=hg1.size;simp at this;omega
    have hc1:w1.cell? ⟨w.heap.size,0,none⟩=some (.slice Ab p.bQ.length cb):=by
     rw[FC.cell (p:=⟨w.heap.size,0,none⟩) (by simp),sZ _ _ _ hsz];exact hc0
    go_wp2_with fail;go_roundw
    case rel=>exact⟨k+1,by omega,by go_num,by rw[EO hf,TN];exact yj,sF,uZ,hc1⟩
    case measure=>simp[RowKit.intOf];omega
  ·obtain rfl:k=p.bQ.length:=by omega
   rw[JV]at lC
   go_wp2_with fail;go_loopw[3,5] (λu i wr=>∃k:Nat,k<=p.bQ.length/\i=.int .i64 k/\Own jJ 1 3 wr (w.heap.size+1) u (x9 (EP p true++uT p false k))/\Below w.heap.size w wr/\w.heap.size<wr.heap.size/\wr.cell? ⟨w.heap.size,0,none⟩=some (.slice Ab p.bQ.length cb)) (λ_ i _=>p.bQ.length - (RowKit.intOf i).toNat)
   case atStart=>exact⟨0,aK _,rfl,by simpa[uT]using lC,hbw,hsz,hc0⟩
   case round=>
    clear lC hbw hsz hc0;obtain⟨k,hk,rfl,lC,hbw,hsz,hc0⟩:=hrel;by_cases hlt:k<p.bQ.length
    ·obtain⟨hok,LG,b0,b1,b2,b3⟩:=(hb.up hbw hbw.size).bin hlt;cases hf:(l9 p.bQ k).front
     ·have kD:(x9 (EP p true++uT p false k)).length<=1000000:=by
       rw[CV,aZ];have h1:=C9 p false k;have h2:=C9 p true p.bQ.length;rw[JV]at h2;omega
      go_wp2_with (at_builtin;refine aW ?_)
      unfold Hid;refine lS _ rfl (.tmp 37) (.tmp 39) 23 3 rfl (w.heap.size+1) _ 1 8 underlying23 L9 rfl (by decide) (by decide) u3 (x9 (EP p true++uT p false k)) (k:Int) rfl (lC.alloc _) ⟨wr.heap.size,0,none⟩ 1 rfl rfl (cell_one_new _ _ _) (UU _) kD (by simp;omega) ?_
      intro v1 w1 yj hg1 jb7 FC;have sF:Below w.heap.size w w1:=(hbw.alloc hbw.size _).trans (FC.mono (by omega))
      have uZ:w.heap.size<w1.heap.size:=by have:=hg1.size;simp at this;omega
      have hc1:w1.cell? ⟨w.heap.size,0,none⟩=some (.slice Ab p.bQ.length cb):=by
       rw[FC.cell (p:=⟨w.heap.size,0,none⟩) (by simp),sZ _ _ _ hsz];exact hc0
      go_wp2_with fail;go_roundw
      case rel=>exact⟨k+1,by omega,by go_num,by rw[EO hf,<- eH,TN];exact yj,sF,uZ,hc1⟩
      case measure=>simp[RowKit.intOf];omega
     ·go_wp2_with fail;go_roundw
      case rel=>exact⟨k+1,by omega,by go_num,by rw[Gi (by rw[hf];decide)];exact lC,hbw,hsz,hc0⟩
      case measure=>simp[RowKit.intOf];omega
    ·obtain rfl:k=p.bQ.length:=by omega
     go_wp2_with fail;go_ret
     exact⟨_,rfl,lC.from_ (by omega),hbw⟩
end Wh
