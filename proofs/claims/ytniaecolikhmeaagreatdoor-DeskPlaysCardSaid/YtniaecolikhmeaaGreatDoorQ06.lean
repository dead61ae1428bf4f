/- Texts of the claim, joined. -/
import Derived.WalkSpells
import Derived.WalkLawsBesides
import Derived.Shelf.Abstract
import Derived.BigQuiet
import Derived.Deep.RegionWith
import Derived.Deep.AppendLies
import Derived.Lib.AppendZerosOnto
import Derived.Lib.Overlaps
import Derived.StillTail
import Derived.Test.YtniaecolikhmeaaGreatDoorQ04
set_option maxHeartbeats 20000000
set_option maxRecDepth 100000
set_option linter.all false
namespace Wh
open Go Go.RowKit
section
def okA(A:Option Addr):Prop:=∃b off,A=some ⟨b,off,none⟩
def iH:Option Addr->Nat
 |some a=>a.block
 |none=>0
def l9:Option Addr->Nat
 |some a=>a.off
 |none=>0
theorem SE(b off:Nat):okA (some ⟨b,off,none⟩):=⟨b,off,rfl⟩
theorem okA.eq{A:Option Addr}(h:okA A):A=some ⟨iH A,l9 A,none⟩:=by obtain⟨b,off,rfl⟩:=h;rfl
section
variable {P:Program} (w:World)
theorem aV(t:TypeId)(A:Option Addr)(len cap:Nat)(k:IntKind)(i:Int)(h:P.underlying t=some (.slice (P.elem t)))(hA:okA A):
  (Instr.indexAt t (.slice A len cap) (.int k i)).run P w=
   if 0<=i/\i<len then((Go.sizeOf (P.elem t)).run P w).andThen λs w=>.ok (.pointer (some ⟨iH A,l9 A+i.toNat*s,none⟩)) w
   else(boundsPanic k i len .index).run P w:=by
 obtain⟨b,off,rfl⟩:=hA;rw[run_indexAt_slice w t _ len cap k i h];simp only[gy,iH,l9]
end
def At(w:World)(B:Nat)(A:Option Addr)(xs:List Value):Prop:=
 xs≠[]->okA A/\iH A<B/\∀j v,xs[j]?=some v->w.cell? ⟨iH A,l9 A+j,none⟩=some v
section
variable {w w':World} {B B':Nat} {A:Option Addr} {xs:List Value}
theorem At.nil:At w B A []:=λh=>absurd rfl h
theorem At.up(h:At w B A xs)(hb:Below B w w')(hB:B<=B'):At w' B' A xs:=λhn=>
 let ⟨h1,h2,h3⟩:=h hn
 ⟨h1,by omega,λj v hj=>(hb.cell (p:=⟨iH A,l9 A+j,none⟩) h2).trans (h3 j v hj)⟩
theorem At.ok(h:At w B A xs)(hn:0<xs.length):okA A:=(h (by rintro rfl;simp at hn)).1
theorem At.lt(h:At w B A xs)(hn:0<xs.length):iH A<B:=(h (by rintro rfl;simp at hn)).2.1
theorem At.cell(h:At w B A xs){j:Nat}{v:Value}(hj:xs[j]?=some v):w.cell? ⟨iH A,l9 A+j,none⟩=some v:=
 (h (by rintro rfl;simp at hj)).2.2 j v hj
end
theorem yt{W w1:World}(hb:Below W W w1):(∀b o,b<W.heap.size->w1.cell? ⟨b,o,none⟩=W.cell? ⟨b,o,none⟩)/\(∀b o,b<W.heap.size->w1.frozen? ⟨b,o,none⟩=W.frozen? ⟨b,o,none⟩):=
 ⟨λb o h=>hb.cell (p:=⟨b,o,none⟩) h,λb o h=>hb.frozen (p:=⟨b,o,none⟩) h⟩
theorem below_drewN{B:Nat}{a w:World}(h:Below B a w)(n:Nat):Below B a (w.drewN n):=⟨h.os,h.tape,h.output,h.size,h.block⟩
theorem iK{k:IntKind}{a b:Int}(h:a=b):Ending.returned (.int k a)=.returned (.int k b):=by rw[h]
theorem gK{a b:Bool}(h:a=b):Ending.returned (.bool a)=.returned (.bool b):=by rw[h]
theorem jd9{a b c d:Value}(h:a=b)(h':c=d):Ending.returned (.tuple #[a,c])=.returned (.tuple #[b,d]):=by rw[h,h']
theorem O8{α:Type}(enc:α->List Value)(k:Nat)(hk:∀x,(enc x).length=k):
  ∀(l:List α) (i j:Nat) (x:α),l[i]?=some x->j<k->(l.flatMap enc)[i*k+j]?=(enc x)[j]?
 |[],_,_,_,h,_=>by simp at h
 |y::l,0,j,x,h,hj=>by
  simp at h
  subst h;simp[fE (show j<(enc y).length by rw[hk];exact hj)]
 |y::l,i+1,j,x,h,hj=>by
  simp only[wE]at h
  have ih:=O8 enc k hk l i j x h hj;rw[lI,jO (by rw[hk];rw[jS];omega),hk,<- ih]
  congr 1
  rw[jS];omega
theorem lU{α:Type}(enc:α->List Value)(k:Nat)(hk:∀x,(enc x).length=k)(l:List α):(l.flatMap enc).length=l.length*k:=by
 induction l with
 |nil=>simp
 |cons y l ih=>rw[lI,aX,hk,ih,bP,jS];omega
def int(n:Int):Value:=n
def iW(n:Int):List Value:=[n]
def Qv(b:Bin):List Value:=[.bool b.front,b.room,b.low,b.high]
def mX(x:Line):List Value:=[x.dW,x.jk,x.qI,x.eU]
def iD(x:eX):List Value:=[x.aC,x.aK,x.bin,x.n]
def oC(x:Move):List Value:=[x.dW,x.src,x.dst,x.n]
def jk1(b:Bin):Value:=.agg #[.bool b.front,b.room,b.low,b.high]
def JQ(x:Line):Value:=.agg (Vg x)
def uK(x:eX):Value:=.agg (Vh x)
def EW(x:Move):Value:=.agg (jdR x)
def Sl{α:Type}(enc:α->List Value)(w:World)(B:Nat)(v:Value)(l:List α):Prop:=
 ∃A c,v=.slice A l.length c/\l.length<=140737488355232/\At w B A (l.flatMap enc)
section
variable {α:Type} {enc:α→List Value} {w w':World} {B B':Nat} {v:Value} {l:List α}
theorem Sl.up(h:Sl enc w B v l)(hb:Below B w w')(hB:B<=B'):Sl enc w' B' v l:=
 let ⟨A,c,h1,h2,h3⟩:=h
 ⟨A,c,h1,h2,h3.up hb hB⟩
theorem Sl.at_{A:Option Addr}{n c:Nat}(h:Sl enc w B (.slice A n c) l):At w B A (l.flatMap enc):=by
 obtain⟨A',c',h1,_,h3⟩:=h;injection h1 with e
 rw[e];exact h3
theorem Sl.drew(h:Sl enc w B v l):Sl enc w.drew B v l:=h
theorem Sl.nil:Sl enc w B (nS) ([]:List α):=⟨none,0,rfl,by simp,At.nil⟩
end
def KJ{α:Type}(enc:α->List Value)(w:World)(B:Nat)(v:Value)(l:List (List α)):Prop:=
 ∃A c vs,v=.slice A l.length c/\l.length<=140737488355232/\vs.length=l.length/\At w B A vs/\∀(i:Nat) (x:List α),l[i]?=some x->∃u,vs[i]?=some u/\Sl enc w B u x
def oW(w:World)(B:Nat)(v:Value)(l:List Order):Prop:=
 ∃A c vs,v=.slice A l.length c/\l.length<=140737488355232/\vs.length=l.length/\
  At w B A ((l.zip vs).flatMap λx=>[x.1.eH,x.2])/\∀(i:Nat) (x:Order),l[i]?=some x->∃u,vs[i]?=some u/\Sl mX w B u x.aH
theorem KJ.up{α:Type}{enc:α->List Value}{w w':World}{B B':Nat}{v:Value}{l:List (List α)}(h:KJ enc w B v l)(hb:Below B w w')(hB:B<=B'):KJ enc w' B' v l:=
 let ⟨A,c,vs,h1,h2,h3,h4,h5⟩:=h
 ⟨A,c,vs,h1,h2,h3,h4.up hb hB,λi x hi=>let ⟨u,hu,hs⟩:=h5 i x hi;⟨u,hu,hs.up hb hB⟩⟩
theorem oW.up{w w':World}{B B':Nat}{v:Value}{l:List Order}(h:oW w B v l)(hb:Below B w w')(hB:B<=B'):oW w' B' v l:=
 let ⟨A,c,vs,h1,h2,h3,h4,h5⟩:=h
 ⟨A,c,vs,h1,h2,h3,h4.up hb hB,λi x hi=>let ⟨u,hu,hs⟩:=h5 i x hi;⟨u,hu,hs.up hb hB⟩⟩
def kK(w:World)(B:Nat)(v:Value)(p:dG):Prop:=
 ∃vb vs,v=.agg #[vb,vs]/\Sl Qv w B vb p.dP/\Sl iW w B vs p.aW
def kG(w:World)(B:Nat)(v:Value)(s:aI):Prop:=
 ∃v0 v1 v2 v3 v4 v5 v6,v=.agg #[v0,v1,v2,v3,v4,v5,v6]/\KJ iW w B v0 s.on/\oW w B v1 s.ak/\Sl iD w B v2 s.aA/\Sl oC w B v3 s.aF/\
  Sl iW w B v4 s.jf/\Sl iW w B v5 s.O/\Sl iW w B v6 s.dB
theorem kK.up{w w':World}{B B':Nat}{v:Value}{p:dG}(h:kK w B v p)(hb:Below B w w')(hB:B<=B'):kK w' B' v p:=
 let ⟨vb,vs,h1,h2,h3⟩:=h
 ⟨vb,vs,h1,h2.up hb hB,h3.up hb hB⟩
theorem kG.up{w w':World}{B B':Nat}{v:Value}{s:aI}(h:kG w B v s)(hb:Below B w w')(hB:B<=B'):kG w' B' v s:=
 let ⟨v0,v1,v2,v3,v4,v5,v6,h,h0,h1,h2,h3,h4,h5,h6⟩:=h
 ⟨v0,v1,v2,v3,v4,v5,v6,h,h0.up hb hB,h1.up hb hB,h2.up hb hB,h3.up hb hB,h4.up hb hB,h5.up hb hB,h6.up hb hB⟩
section
variable {w:World} {B:Nat} {A:Option Addr}
theorem At.flat{α:Type}{enc:α->List Value}{k:Nat}(hk:∀x,(enc x).length=k){l:List α}(h:At w B A (l.flatMap enc)){i:Nat}{x:α}(hi:l[i]?=some x){j:Nat}(hj:j<k){v:Value}(hv:(enc x)[j]?=some v):
  w.cell? ⟨iH A,l9 A+i*k+j,none⟩=some v:=by
 have h1:=O8 enc k hk l i j x hi hj;rw[hv]at h1
 rw[Nat.add_assoc];exact h.cell h1
theorem At.jex{α:Type}{enc:α->List Value}{k:Nat}(hk:∀x,(enc x).length=k+1){l:List α}(h:At w B A (l.flatMap enc)){i:Nat}(hi:i<l.length):okA A/\iH A<B:=by
 have h1:0<(l.flatMap enc).length:=by rw[lU enc (k+1) hk];exact Fp (by omega) (by omega)
 exact⟨h.ok h1,h.lt h1⟩
theorem At.int{l:List Int}(h:At w B A (l.flatMap iW)){i:Nat}(hi:i<l.length):
  okA A/\iH A<B/\w.cell? ⟨iH A,l9 A+i,none⟩=some (.int .i64 (aZ l i)):=by
 obtain⟨h1,h2⟩:=h.jex (k:=0) (λ_=>rfl) hi
 have e:l[i]?=some (aZ l i):=by simp[aZ,hi]
 have h3:=h.flat (k:=1) (λ_=>rfl) e (j:=0) (by omega) rfl
 simp only[sS,fZ]at h3
 exact⟨h1,h2,h3⟩
theorem At.bin{l:List Bin}(h:At w B A (l.flatMap Qv)){i:Nat}(hi:i<l.length):
  okA A/\iH A<B/\w.cell? ⟨iH A,l9 A+i*4,none⟩=some (.bool (mG l i).front)/\w.cell? ⟨iH A,l9 A+i*4+1,none⟩=some (.int .i64 (mG l i).room)/\
  w.cell? ⟨iH A,l9 A+i*4+2,none⟩=some (.int .i64 (mG l i).low)/\w.cell? ⟨iH A,l9 A+i*4+3,none⟩=some (.int .i64 (mG l i).high):=by
 obtain⟨h1,h2⟩:=h.jex (k:=3) (λ_=>rfl) hi
 have e:l[i]?=some (mG l i):=by simp[mG,hi]
 have f:=λj hj v hv=>h.flat (k:=4) (λ_=>rfl) e (j:=j) hj (v:=v) hv
 exact⟨h1,h2,f 0 (by omega) _ rfl,f 1 (by omega) _ rfl,f 2 (by omega) _ rfl,f 3 (by omega) _ rfl⟩
theorem At.hold{l:List eX}(h:At w B A (l.flatMap iD)){i:Nat}(hi:i<l.length):
  okA A/\iH A<B/\w.cell? ⟨iH A,l9 A+i*4,none⟩=some (.int .i64 (hold l i).aC)/\w.cell? ⟨iH A,l9 A+i*4+1,none⟩=some (.int .i64 (hold l i).aK)/\
  w.cell? ⟨iH A,l9 A+i*4+2,none⟩=some (.int .i64 (hold l i).bin)/\w.cell? ⟨iH A,l9 A+i*4+3,none⟩=some (.int .i64 (hold l i).n):=by
 obtain⟨h1,h2⟩:=h.jex (k:=3) (λ_=>rfl) hi
 have e:l[i]?=some (Wh.hold l i):=by simp[Wh.hold,hi]
 have f:=λj hj v hv=>h.flat (k:=4) (λ_=>rfl) e (j:=j) hj (v:=v) hv
 exact⟨h1,h2,f 0 (by omega) _ rfl,f 1 (by omega) _ rfl,f 2 (by omega) _ rfl,f 3 (by omega) _ rfl⟩
theorem At.aK{l:List Line}(h:At w B A (l.flatMap mX)){i:Nat}(hi:i<l.length):
  okA A/\iH A<B/\w.cell? ⟨iH A,l9 A+i*4,none⟩=some (.int .i64 (fG l i).dW)/\w.cell? ⟨iH A,l9 A+i*4+1,none⟩=some (.int .i64 (fG l i).jk)/\
  w.cell? ⟨iH A,l9 A+i*4+2,none⟩=some (.int .i64 (fG l i).qI)/\w.cell? ⟨iH A,l9 A+i*4+3,none⟩=some (.int .i64 (fG l i).eU):=by
 obtain⟨h1,h2⟩:=h.jex (k:=3) (λ_=>rfl) hi
 have e:l[i]?=some (fG l i):=by simp[fG,hi]
 have f:=λj hj v hv=>h.flat (k:=4) (λ_=>rfl) e (j:=j) hj (v:=v) hv
 exact⟨h1,h2,f 0 (by omega) _ rfl,f 1 (by omega) _ rfl,f 2 (by omega) _ rfl,f 3 (by omega) _ rfl⟩
theorem At.move{l:List Move}(h:At w B A (l.flatMap oC)){i:Nat}(hi:i<l.length):
  okA A/\iH A<B/\w.cell? ⟨iH A,l9 A+i*4,none⟩=some (.int .i64 (bZ l i).dW)/\w.cell? ⟨iH A,l9 A+i*4+1,none⟩=some (.int .i64 (bZ l i).src)/\
  w.cell? ⟨iH A,l9 A+i*4+2,none⟩=some (.int .i64 (bZ l i).dst)/\w.cell? ⟨iH A,l9 A+i*4+3,none⟩=some (.int .i64 (bZ l i).n):=by
 obtain⟨h1,h2⟩:=h.jex (k:=3) (λ_=>rfl) hi
 have e:l[i]?=some (bZ l i):=by simp[bZ,hi]
 have f:=λj hj v hv=>h.flat (k:=4) (λ_=>rfl) e (j:=j) hj (v:=v) hv
 exact⟨h1,h2,f 0 (by omega) _ rfl,f 1 (by omega) _ rfl,f 2 (by omega) _ rfl,f 3 (by omega) _ rfl⟩
end
theorem Sl.isSlice{α:Type}{enc:α->List Value}{w:World}{B:Nat}{v:Value}{l:List α}(h:Sl enc w B v l):∃A c,v=.slice A l.length c:=
 let ⟨A,c,h1,_,_⟩:=h
 ⟨A,c,h1⟩
theorem KJ.row{w:World}{B:Nat}{A:Option Addr}{n c:Nat}{l:List (List Int)}(h:KJ iW w B (.slice A n c) l){i:Nat}(hi:i<l.length):
  ∃A' c',okA A/\iH A<B/\w.cell? ⟨iH A,l9 A+i,none⟩=some (.slice A' (fO l i).length c')/\Sl iW w B (.slice A' (fO l i).length c') (fO l i):=by
 obtain⟨A0,c0,vs,hv,_,hvl,hA,hr⟩:=h;injection hv with h1 h2 h3
 subst h1;obtain⟨u,hu,hs⟩:=hr i l[i] (by simp[hi])
 have e:fO l i=l[i]:=by simp[fO,hi]
 have h0:0<vs.length:=by omega
 obtain⟨A',c',rfl⟩:=hs.isSlice;rw[e];exact⟨A',c',hA.ok h0,hA.lt h0,hA.cell hu,hs⟩
theorem oW.aC{w:World}{B:Nat}{A:Option Addr}{n c:Nat}{l:List Order}(h:oW w B (.slice A n c) l){i:Nat}(hi:i<l.length):
  ∃A' c',okA A/\iH A<B/\w.cell? ⟨iH A,l9 A+i*2,none⟩=some (.int .i64 (bK l i).eH)/\
   w.cell? ⟨iH A,l9 A+i*2+1,none⟩=some (.slice A' (bK l i).aH.length c')/\Sl mX w B (.slice A' (bK l i).aH.length c') (bK l i).aH:=by
 obtain⟨A0,c0,vs,hv,_,hvl,hA,hr⟩:=h;injection hv with h1 h2 h3
 subst h1;obtain⟨u,hu,hs⟩:=hr i l[i] (by simp[hi])
 have e:bK l i=l[i]:=by simp[bK,hi]
 obtain⟨A',c',rfl⟩:=hs.isSlice;rw[e];have hz:(l.zip vs)[i]?=some (l[i],.slice A' l[i].aH.length c'):=by
  rw[List.getElem?_zip_eq_some]
  exact⟨by simp[hi],hu⟩
 have hzl:i<(l.zip vs).length:=by rw[List.length_zip];omega
 have f:=λj hj v hv=>hA.flat (k:=2) (λ_=>rfl) hz (j:=j) hj (v:=v) hv
 obtain⟨h1,h2⟩:=hA.jex (k:=1) (λ_=>rfl) hzl
 exact⟨A',c',h1,h2,f 0 (by omega) _ rfl,f 1 (by omega) _ rfl,hs⟩
/-! ### What the call itself makes -/
def Gives(R:Value->World->Prop)(w:World)(e:Ending)(w':World):Prop:=∃v,e=.returned v/\R v w'/\Below w w w'
def Own{α:Type}(enc:α->List Value)(size:Nat)(e:TypeId)(w:World)(aT:Nat)(v:Value)(l:List α):Prop:=w.ownsRow aT e size v l.length (l.flatMap enc)
def Elem(P:Program)(e:TypeId)(z:Value)(size bytes:Nat):Prop:=∃i,P.info? e=some i/\i.zero=some z/\i.size=size/\i.bytes=bytes
theorem Ls{P:Program}{e:TypeId}{z:Value}{size bytes:Nat}(h:(P.info? e).map (λi=>(i.zero,i.size,i.bytes))=some (some z,size,bytes)):Elem P e z size bytes:=by
 cases hi:P.info? e with
 |none=>rw[hi]at h;simp at h
 |some i=>
  rw[hi]at h
  simp only[jr,mZ,DJ]at h
  exact⟨i,hi,h.1,h.2.1,h.2.2⟩
section
variable {α:Type} {enc:α→List Value} {size:Nat} {e:TypeId} {w w':World} {aT:Nat} {v:Value} {l:List α}
theorem Own.nil:Own enc size e w aT (nS) []:=World.ownsRow_nil w aT e size
theorem Own.alloc(h:Own enc size e w aT v l)(o:Obj):Own enc size e (w.alloc o) aT v l:=DI h o
theorem Own.from_{base':Nat}(h:Own enc size e w aT v l)(hb:base'<=aT):Own enc size e w base' v l:=by
 refine⟨h.1,?_⟩
 rcases h.2 with hn|⟨g,cap,cur,h1,h2,r⟩
 ·exact .inl hn
 ·exact .inr ⟨g,cap,cur,h1,by omega,r⟩
theorem Own.isSlice(h:Own enc size e w aT v l):∃A c,v=.slice A l.length c:=by
 rcases h.2 with⟨h1,h2⟩|⟨g,cap,cur,h1,_⟩
 ·exact⟨none,0,by rw[h1,h2]⟩
 ·exact⟨_,_,h1⟩
theorem Own.below(h:Own enc size e w aT v l)(hb:Below w w w'):Own enc size e w' aT v l:=by
 refine⟨h.1,?_⟩
 rcases h.2 with hn|⟨g,cap,cur,rfl,hbg,hg,rest⟩
 ·exact .inl hn
 ·exact .inr ⟨g,cap,cur,rfl,hbg,by rw[hb.block g (bI.1 hg).1];exact hg,rest⟩
theorem Own.sl(h:Own enc size e w aT v l)(hn:l.length<=140737488355232):Sl enc w w v l:=by
 rcases h.2 with⟨h1,h2⟩|⟨g,cap,cur,rfl,hb,hg,hnc,hcm,hcs,htake⟩
 ·obtain rfl:l=[]:=jT h2;subst h1;exact Sl.nil
 ·refine⟨some ⟨g,0,none⟩,cap,rfl,hn,λ_=>⟨SE _ _,(bI.1 hg).1,λj u hj=>?_⟩⟩
  have hh:w.ownsRow aT e size (.slice (some g) l.length cap) l.length (l.flatMap enc):=h;have:=hh.cells (g:=g) rfl j u hj;simpa[gy,iH,l9]using this
end
theorem Dv(n:Int):∀u∈iW n,u.oneCell'=true:=by simp[iW,Value.oneCell']
theorem Own.size{α:Type}{enc:α->List Value}{size:Nat}{e:TypeId}{w:World}{aT:Nat}{v:Value}{l:List α}(h:Own enc size e w aT v l):∀k,v.ownBlock=some k->aT<=k/\k<w.heap.size:=qK h
section
variable {P:Program} (w:World)
theorem jV{α:Type}{enc:α->List Value}{ops:Array Oper}{rest:List Oper}{o:Oper}{a:Act}{Q:Exit->Act->World->Prop}(hgd:o.guard=none)(s x:Operand)(t e:TypeId)
  (ho:o.op=.call {callee:=.builtin .append,args:=#[s,x],argTypes:=#[t,t]}) (aT:Nat) (z:Value) (size bytes:Nat) (ht:P.underlying t=some (.slice e)) (hi:Elem P e z size bytes)
  (hzs:z.cells.size=size) (hsz:0<size) (hby:bytes<=64) (v:Value) (l:List α) (y:α) (hs:a.eval s=v) (mQ:Own enc size e w aT v l)
  (ad:Addr) (c:Nat) (hx:a.eval x=.slice (some ad) 1 c) (hl:(enc y).length=size) (hnews:∀j u,(enc y)[j]?=some u->w.cell? (ad.add j)=some u) (h1:∀u∈enc y,u.oneCell'=true)
  (hn:l.length<=1000000) (wu:aT<=w.heap.size)
  (h:∀v' w',Own enc size e w' aT v' (l++[y])->w.grownBy w' v.ownBlock->(v'.ownBlock=v.ownBlock\/v'.ownBlock=some w.heap.size)->Below aT w w'->wpList P ops Q rest (a.put o.dst v') w'):
  wpList P ops Q (o::rest) a w:=by
 obtain⟨i,hi,hz,MG,hbytes⟩:=hi;have hb:(l.length+1)*bytes<=140737488355328:=aU (vW (show l.length+1<=1000001 by omega) hby) (by decide)
 refine wpList_append_own_at w hgd s x t ho aT e i z size bytes ht hi hz MG hbytes hzs hsz v l.length _ hs mQ ad 1 c (enc y) hx (by rw[hl,Nat.one_mul]) hnews h1 (by unfold maxLen;omega) hb wu ?_
 intro v' w' h2 h3 _ h5;refine h v' w' ?_ h3 h5 ((aj _ _).grown h3 wu λk hk=>(qK mQ k hk).1)
 unfold Own;rw[aX,gQ];simpa using h2
end
theorem Sl.grow{α:Type}{enc:α->List Value}{w w':World}{v:Value}{l:List α}(h:Sl enc w w v l)(hb:Below w w w'):Sl enc w' w' v l:=h.up hb hb.size
theorem kK.grow{w w':World}{v:Value}{p:dG}(h:kK w w v p)(hb:Below w w w'):kK w' w' v p:=h.up hb hb.size
end
section
section
variable {P:Program} (w:World)
theorem run_append_nil(aT:Nat)(t ty e:TypeId)(i:TypeInfo)(size:Nat)(ht:P.underlying t=some (.slice e))(hi:P.info? e=some i)
  (v:Value) (n:Nat) (xs:List Value) (mQ:w.ownsRow aT e size v n xs) (c:Nat):(Builtin.append_ #[t,t] ty #[v,.slice none 0 c]).run P w=.ok v w:=by
 rcases mQ.2 with⟨rfl,rfl⟩|⟨g,cap,cur,rfl,_,_,hnc,_⟩
 ·simp[Builtin.append_,mJ ht,Go.sizeOf,typeInfo,hi,Builtin.lenOf,Builtin.firstCells]
 ·simp[Builtin.append_,mJ ht,Go.sizeOf,typeInfo,hi,Builtin.lenOf,Builtin.firstCells,hnc,storeCells]
theorem yH{α:Type}{enc:α->List Value}{ops:Array Oper}{rest:List Oper}{o:Oper}{a:Go.Act}{Q:Exit->Go.Act->World->Prop}(hgd:o.guard=none)(s x:Operand)(t e:TypeId)
  (ho:o.op=.call {callee:=.builtin .append,args:=#[s,x],argTypes:=#[t,t]}) (aT:Nat) (z:Value) (size bytes:Nat) (ht:P.underlying t=some (.slice e)) (hi:Elem P e z size bytes)
  (hzs:z.cells.size=size) (hsz:0<size) (hby:bytes<=64) (v:Value) (l m:List α) (hs:a.eval s=v) (mQ:Own enc size e w aT v l)
  (A:Option Addr) (c B:Nat) (hx:a.eval x=.slice A m.length c) (hk:∀y,(enc y).length=size) (hA:At w B A (m.flatMap enc)) (h1:∀y,∀u∈enc y,u.oneCell'=true)
  (hn:l.length+m.length<=1000000) (wu:aT<=w.heap.size)
  (h:∀v' w',Own enc size e w' aT v' (l++m)->w.grownBy w' v.ownBlock->(v'.ownBlock=v.ownBlock\/v'.ownBlock=some w.heap.size)->Below aT w w'->wpList P ops Q rest (a.put o.dst v') w'):
  wpList P ops Q (o::rest) a w:=by
 obtain⟨i,hi,hz,MG,hbytes⟩:=hi;have hb:(l.length+m.length)*bytes<=140737488355328:=aU (vW hn hby) (by decide)
 have hsplit:(A=none/\m.length=0)\/∃ad:Addr,A=some ad/\∀j u,(m.flatMap enc)[j]?=some u->w.cell? (ad.add j)=some u:=by
  rcases vN m.length with h0|h0
  ·obtain rfl:m=[]:=jT h0;cases A with
   |none=>exact .inl ⟨rfl,rfl⟩
   |some ad=>exact .inr ⟨ad,rfl,by simp⟩
  ·have hp:0<(m.flatMap enc).length:=by rw[lU enc size hk];exact Fp h0 hsz
   have he:=(hA.ok hp).eq;refine .inr ⟨_,he,λj u hj=>?_⟩
   rw[gy];exact hA.cell hj
 rcases hsplit with⟨rfl,h0⟩|⟨ad,rfl,hcells⟩
 ·obtain rfl:m=[]:=jT h0;refine jo hgd λK hK=>?_
  have hr:=run_append_nil (P:=P) w aT t o.type e i size ht hi v l.length _ mQ c;unfold Oper.wp execOp;simp only[dQ]at hx
  simp only[ho,resolve,invoke,builtin,iP,jc,gY,kC,dJ,lD,hs,hx,hr];exact hK _ _ (h v w (by rw[jd];exact mQ) (zo w _) (.inl rfl) (aj _ _))
 ·refine wpList_append_own_at w hgd s x t ho aT e i z size bytes ht hi hz MG hbytes hzs hsz v l.length _ hs mQ ad m.length c (m.flatMap enc) hx (lU enc size hk m) hcells
   (λu hu=>by obtain⟨y,_,hy⟩:=oL.1 hu;exact h1 y u hy) (by unfold maxLen;omega) hb wu ?_
  intro v' w' h2 h3 _ h5;refine h v' w' ?_ h3 h5 ((aj _ _).grown h3 wu λk hk=>(qK mQ k hk).1)
  unfold Own;rw[aX,gQ];exact h2
end
section
variable {α:Type} {enc:α→List Value} {size:Nat} {e:TypeId} {w w':World} {aT:Nat} {v:Value} {l:List α}
theorem Own.Xg(w:World)(e:TypeId)(hb:aT<=w.heap.size):Own enc size e (w.alloc (.cells #[] e)) aT (.slice (some w) 0 0) []:=
 World.ownsRow_made w #[] 0 hb (aN _) (by simp)
theorem Own.lit(w:World)(e:TypeId)(cs:Array Value)(l:List α)(hb:aT<=w.heap.size)(hm:l.length<=1000000)(hk:∀x,(enc x).length=size)(hc:cs.toList=l.flatMap enc):
  Own enc size e (w.alloc (.cells cs e)) aT (.slice (some w) l.length l.length) l:=by
 have hs:cs.size=l.length*size:=by rw[<- oP,hc,lU enc size hk]
 have:=World.ownsRow_lit (e:=e) w cs l.length hb (by unfold maxLen;omega) hs
 rw[hc]at this
 exact this
theorem Own.kept{row:Option Nat}(h:Own enc size e w aT v l)(hg:w.grownBy w' row)(hne:v.ownBlock=none\/v.ownBlock≠row):Own enc size e w' aT v l:=World.ownsRow.kept h hg hne
theorem Own.block(h:Own enc size e w aT v l){g:Nat}(hg:v.ownBlock=some g):∃cur,w.heap[g]?=some (.cells cur e (0,0)):=by
 rcases h.2 with⟨rfl,_⟩|⟨g',cap,cur,rfl,_,hh,_⟩
 ·simp[Value.ownBlock]at hg
 ·simp[Value.ownBlock]at hg
  subst hg;exact⟨cur,hh⟩
theorem Own.some_(h:Own enc size e w aT v l)(hl:0<l.length):∃g c,v=.slice (some ⟨g,0,none⟩) l.length c/\aT<=g/\g<w.heap.size:=by
 rcases h.2 with⟨_,h0⟩|⟨g,cap,cur,h1,h2,h3,_⟩
 ·omega
 ·exact⟨g,cap,h1,h2,(bI.1 h3).1⟩
theorem Own.apart{β:Type}{enc':β->List Value}{size':Nat}{e':TypeId}{base':Nat}{v':Value}{l':List β}(h:Own enc size e w aT v l)(h':Own enc' size' e' w base' v' l')(hne:e≠e'):
  v.ownBlock=none\/v.ownBlock≠v'.ownBlock:=by
 cases hv:v.ownBlock with
 |none=>exact .inl rfl
 |some g=>
  refine .inr λhe=>?_
  obtain⟨c1,h1⟩:=h.block hv;obtain⟨c2,h2⟩:=h'.block he.symm;rw[h1]at h2
  injection h2 with h2
  injection h2 with _ h3
  exact hne h3
end
def Yn(E2 E1:TypeId)(w:World)(aT:Nat)(v:Value)(l:List (List Int))(gs:List Nat)(vs:List Value):Prop:=
 Own (λu:Value=>[u]) 1 E2 w aT v vs/\vs.length=l.length/\gs.length=l.length/\gs.Nodup/\
  ∀(i:Nat) (x:List Int),l[i]?=some x->∃g c,vs[i]?=some (.slice (some ⟨g,0,none⟩) x.length c)/\gs[i]?=some g/\Own iW 1 E1 w aT (.slice (some ⟨g,0,none⟩) x.length c) x
def qN(E2 E1:TypeId)(w:World)(aT:Nat)(v:Value)(l:List (List Int))(gs:List Nat):Prop:=∃vs,Yn E2 E1 w aT v l gs vs
section
variable {E2 E1:TypeId} {w w':World} {aT:Nat} {v:Value} {l:List (List Int)} {gs:List Nat}
theorem qN.nil:qN E2 E1 w aT (nS) [] []:=⟨[],Own.nil,rfl,rfl,List.nodup_nil,λi x h=>by simp at h⟩
theorem qN.below(h:qN E2 E1 w aT v l gs)(hb:Below w w w'):qN E2 E1 w' aT v l gs:=
 let ⟨vs,h1,h2,h3,h4,h5⟩:=h
 ⟨vs,h1.below hb,h2,h3,h4,λi x hi=>let ⟨g,c,e1,e2,e3⟩:=h5 i x hi;⟨g,c,e1,e2,e3.below hb⟩⟩
theorem qN.from_{base':Nat}(h:qN E2 E1 w aT v l gs)(hb:base'<=aT):qN E2 E1 w base' v l gs:=
 let ⟨vs,h1,h2,h3,h4,h5⟩:=h
 ⟨vs,h1.from_ hb,h2,h3,h4,λi x hi=>let ⟨g,c,e1,e2,e3⟩:=h5 i x hi;⟨g,c,e1,e2,e3.from_ hb⟩⟩
theorem qN.mem(h:qN E2 E1 w aT v l gs){g:Nat}(hg:g∈gs):aT<=g/\g<w.heap.size:=by
 obtain⟨vs,h1,h2,h3,h4,h5⟩:=h;obtain⟨i,hi,rfl⟩:=bg hg;obtain⟨g,c,e1,e2,e3⟩:=h5 i l[i] (by simp[<- h3,hi])
 rw[bQ hi]at e2
 injection e2 with e2
 rw[e2];exact e3.size g rfl
theorem Yn.push(hE:E1≠E2){vs:List Value}(h:Yn E2 E1 w aT v l gs vs){w1 w2:World}{v':Value}{x:List Int}{g c:Nat}(hw:Below w w w1)(hg:w.heap.size<=g)
  (hu:Own iW 1 E1 w1 aT (.slice (some g) x.length c) x) (hgrow:w1.grownBy w2 v.ownBlock)
  (mQ:Own (λu:Value=>[u]) 1 E2 w2 aT v' (vs++[.slice (some g) x.length c])):
  qN E2 E1 w2 aT v' (l++[x]) (gs++[g]):=by
 have hmem:=λg' (hg':g'∈gs)=>qN.mem ⟨vs,h⟩ hg'
 obtain⟨h1,h2,h3,h4,h5⟩:=h;have keep:∀ {y:List Int} {g' c':Nat},Own iW 1 E1 w1 aT (.slice (some g') y.length c') y->Own iW 1 E1 w2 aT (.slice (some g') y.length c') y:=
  λhy=>hy.kept hgrow (Own.apart hy (h1.below hw) hE)
 refine⟨_,mQ,by simp[h2],by simp[h3],?_,λi y hi=>?_⟩
 ·rw[List.nodup_append];refine⟨h4,by simp,λa ha b hb=>?_⟩
  obtain rfl:=ig.1 hb;have:=(hmem a ha).2;omega
 ·by_cases hlt:i<l.length
  ·rw[fE hlt]at hi
   obtain⟨g',c',e1,e2,e3⟩:=h5 i y hi;exact⟨g',c',by rw[fE (by omega)];exact e1,by rw[fE (by omega)];exact e2,keep (e3.below hw)⟩
  ·rw[jO (by omega)]at hi
   have hi0:i - l.length=0:=by
    rcases vN (i - l.length)with h0|h0
    ·exact h0
    ·rw[qg (by simp;omega)]at hi;simp at hi
   rw[hi0]at hi
   simp at hi
   subst hi;exact⟨g,c,by rw[jO (by omega)];simp[h2,hi0],by rw[jO (by omega)];simp[h3,hi0],keep hu⟩
end
end
section
def iJ(w:World)(g:Nat)(e:TypeId)(cur:List Value):Prop:=w.heap[g]?=some (.cells cur.toArray e (0,0))
def spl(L:List Value)(o:Nat)(cs:List Value):List Value:=L.take o++cs++L.drop (o+cs.length)
theorem Aa{L:List Value}{o:Nat}{cs:List Value}(h:o+cs.length<=L.length):(spl L o cs).length=L.length:=by
 unfold spl;simp only[aX,bC,jv];omega
theorem jar{L:List Value}{o:Nat}{cs:List Value}(h:o<=L.length):(spl L o cs).take o=L.take o:=by
 unfold spl;rw[gZ,oH (by rw[bC];omega),oG,Nat.min_self]
theorem jas{L:List Value}{o:Nat}{cs:List Value}(h:o<=L.length):(spl L o cs).take (o+cs.length)=L.take o++cs:=by
 unfold spl;rw[oH (by rw[aX,bC];omega),kJ (by rw[aX,bC];omega)]
section
variable {w:World} {g:Nat} {e:TypeId} {cur:List Value}
theorem iJ.lt(h:iJ w g e cur):g<w.heap.size:=(bI.1 h).1
theorem iJ.cell(h:iJ w g e cur){j:Nat}{v:Value}(hj:cur[j]?=some v):w.cell? ⟨g,j,none⟩=some v:=by
 unfold iJ at h
 simp[World.cell?,h,hj]
theorem iJ.row(h:iJ w g e cur)(cs:List Value):iJ (w.setRow g cs.toArray) g e cs:=setRow_heap w g _ _ _ _ h
theorem iJ.other(h:iJ w g e cur){g':Nat}(hne:g≠g')(cs:Array Value):iJ (w.setRow g' cs) g e cur:=by
 unfold iJ at*
 rw[EK w g' g cs hne];exact h
theorem iJ.drew(h:iJ w g e cur):iJ w.drew g e cur:=h
theorem iJ.alloc(h:iJ w g e cur)(o:Obj):iJ (w.alloc o) g e cur:=by
 unfold iJ at*
 rw[oO _ _ _ (bI.1 h).1]
 exact h
theorem iJ.new(w:World)(e:TypeId)(cs:Array Value):iJ (w.alloc (.cells cs e)) w e cs.toList:=by
 show(w.heap.push (.cells cs e))[w.heap.size]?=_;rw[Array.getElem?_push_size]
theorem iJ.below(h:iJ w g e cur){B:Nat}{w':World}(hb:Below B w w')(hg:g<B):iJ w' g e cur:=(hb.block g hg).trans h
theorem iJ.grown(h:iJ w g e cur){w':World}{row:Option Nat}(hg:w.grownBy w' row)(hne:some g≠row):iJ w' g e cur:=(hg.block g h.lt hne).trans h
theorem iJ.shape(h:iJ w g e cur):w.shape? g=some (e,cur.length):=by
 unfold iJ at h
 simp[World.shape?,h]
theorem iJ.frozen(h:iJ w g e cur)(o:Nat):w.frozen? ⟨g,o,none⟩=false:=by
 unfold iJ at h
 simp[World.frozen?,h]
theorem wL(w:World)(g:Nat)(cs:Array Value):w.grownBy (w.setRow g cs) (some g):=
 ⟨rfl,rfl,rfl,by simp[World.setRow],λk _ hne=>EK w g k cs (λe=>hne (by rw[e]))⟩
theorem tV{B g:Nat}{w0 w:World}(hb:Below B w0 w)(hBg:B<=g)(cs:Array Value):Below B w0 (w.setRow g cs):=
 hb.trans ⟨rfl,rfl,rfl,by simp[World.setRow],λk hk=>EK w g k cs (by omega)⟩
end
section
variable {P:Program} (w:World)
theorem Jr(dT sT ty elem:TypeId)(k g o dLen dCap:Nat)(a:Addr)(sLen sCap:Nat)(cur:List Value)(t:TypeId)(cs:List Value)
  (hu:P.underlying dT=some (.slice elem)) (hs:(P.info? elem).map (·.size)=some k)
  (hg:iJ w g t cur) (n:Nat) (hm:Nat.min sLen dLen=n) (hn:cs.length=n*k)
  (hsrc:∀j v,cs[j]?=some v->w.cell? (a.add j)=some v) (hfit:o+cs.length<=cur.length) (h1:∀v∈cs,v.oneCell'=true):
  (Builtin.copy_ #[dT,sT] ty #[.slice (some ⟨g,o,none⟩) dLen dCap,.slice (some a) sLen sCap]).run P w=
   .ok (goInt n) (w.setRow g (spl cur o cs).toArray):=by
 have hl:=qQ (P:=P) w k n a sLen sCap cs hn hsrc;have hst:=wP P g o t cs 0 cur.toArray w hg (by simpa using hfit) h1
 cases hq:P.info? elem with
 |none=>simp[hq]at hs
 |some i=>
  have hi:i.size=k:=by simpa[hq]using hs
  subst hi;simp only[Builtin.copy_,iP,mJ hu,gY,Builtin.lenOf,jc,Go.sizeOf,typeInfo,Ci,oM,wE,run_program,hq,hm,hl,hst]
  simp[spl]
theorem Ox(t ty e:TypeId)(i:TypeInfo)(ht:P.underlying t=some (.slice e))(hi:P.info? e=some i)(g n cap:Nat)(x:Value)(m:Nat)(cs:List Value)(cur:List Value)
  (hg:iJ w g e cur) (lZ:Builtin.lenOf x=Sem.pure m) (hx:(Builtin.firstCells i.size m x).run P w=.ok cs.toArray w) (hroom:n+m<=cap) (hfit:n*i.size+cs.length<=cur.length) (h1:∀v∈cs,v.oneCell'=true):
  (Builtin.append_ #[t,t] ty #[.slice (some g) n cap,x]).run P w=.ok (.slice (some g) (n+m) cap) (w.setRow g (spl cur (n*i.size) cs).toArray):=by
 have hst:=wP P g (n*i.size) e cs 0 cur.toArray w hg (by simpa using hfit) h1
 simp[Builtin.append_,mJ ht,Go.sizeOf,typeInfo,hi,lZ,hroom,hx,gy,hst,spl]
theorem yx(z:Array Value)(n:Nat):(Builtin.zeroCells z n).size=n*z.size:=by simp[Builtin.zeroCells]
theorem Yu{z:Array Value}(h:∀v∈z,v.oneCell'=true)(n:Nat):∀v∈(Builtin.zeroCells z n).toList,v.oneCell'=true:=by
 intro v hv;simp only[Builtin.zeroCells,Array.toList_map,kN,Array.mem_toList_iff,Array.mem_range]at hv
 obtain⟨j,hj,rfl⟩:=hv;have hz:0<z.size:=by
  rcases vN z.size with h0|h0
  ·rw[h0]at hj;simp at hj
  ·exact h0
 have hjm:=Nat.mod_lt j hz;rw[getElem!_pos z (j%z.size) hjm];exact h _ (Array.getElem_mem hjm)
theorem LG(t e ty:TypeId)(z:Value)(ht:P.underlying t=some (.slice e))(hv:∀w,(zeroValue e).run P w=.ok z w)(h1:∀v∈z.cells,v.oneCell'=true)(g o n c:Nat)(cur:List Value)
  (hg:iJ w g e cur) (hn:0<n) (hfit:o+n*z.cells.size<=cur.length):
  (Builtin.clear_ #[t] ty #[.slice (some ⟨g,o,none⟩) n c]).run P w=.ok (.tuple #[]) (w.setRow g (spl cur o (Builtin.zeroCells z.cells n).toList).toArray):=by
 have hst:=wP P g o e (Builtin.zeroCells z.cells n).toList 0 cur.toArray w hg (by simpa[yx]using hfit) (Yu h1 n)
 obtain⟨m,rfl⟩:∃m,n=m+1:=⟨n - 1,by omega⟩
 simp only[Builtin.clear_,iP,Ci,oM,mJ ht,gY,hv,hst]
 simp[spl]
theorem sH{ops:Array Oper}{o:Oper}{a:Act}{K:Act->World->Prop}{Q:Exit->Act->World->Prop}{E:Prop}
  (hg:o.guard=none) (d x:Operand) (dT sT:TypeId) (hop:o.op=Op.call {callee:=Callee.builtin Builtin.append,args:=#[d,x],argTypes:=#[dT,sT]})
  (v u:Value) (hd:a.eval d=v) (hx:a.eval x=u) {v':Value} {w':World} (hr:(Builtin.append_ #[dT,sT] o.type #[v,u]).run P w=.ok v' w') (hK:K (a.put o.dst v') w'):
  if Region.wanted o (yielded ops a.tmps)=true then Oper.wp P o a w K Q else E:=by
 have hw:Region.wanted o (yielded ops a.tmps)=true:=by simp[Region.wanted,hg]
 rw[aB hw];unfold Oper.wp;simp[execOp,hop,resolve,invoke,builtin,hd,hx,hr,Result.andThen]
 exact hK
theorem Sj{ops:Array Oper}{o:Oper}{a:Act}{K:Act->World->Prop}{Q:Exit->Act->World->Prop}{E:Prop}
  (hg:o.guard=none) (d x:Operand) (dT sT:TypeId) (hop:o.op=Op.call {callee:=Callee.builtin Builtin.copy,args:=#[d,x],argTypes:=#[dT,sT]})
  (v u:Value) (hd:a.eval d=v) (hx:a.eval x=u) {v':Value} {w':World} (hr:(Builtin.copy_ #[dT,sT] o.type #[v,u]).run P w=.ok v' w') (hK:K (a.put o.dst v') w'):
  if Region.wanted o (yielded ops a.tmps)=true then Oper.wp P o a w K Q else E:=by
 have hw:Region.wanted o (yielded ops a.tmps)=true:=by simp[Region.wanted,hg]
 rw[aB hw];unfold Oper.wp;simp[execOp,hop,resolve,invoke,builtin,hd,hx,hr,Result.andThen]
 exact hK
theorem Om{ops:Array Oper}{rest:List Oper}{o:Oper}{a:Act}{Q:Exit->Act->World->Prop}(hgd:o.guard=none)(d s:Operand)(t t':TypeId)
  (ho:o.op=.call {callee:=.builtin .copy,args:=#[d,s],argTypes:=#[t,t']}) (v u:Value) (hd:a.eval d=v) (hs:a.eval s=u) {v':Value} {w':World}
  (hr:(Builtin.copy_ #[t,t'] o.type #[v,u]).run P w=.ok v' w') (h:wpList P ops Q rest (a.put o.dst v') w'):wpList P ops Q (o::rest) a w:=
 jo hgd λK hK=>by
  unfold Oper.wp execOp;simp only[ho,resolve,invoke,builtin,iP,jc,gY,kC,dJ,lD,hd,hs,hr];exact hK _ _ h
end
theorem Ic{α:Type}(enc:α->List Value)(k:Nat)(hk:∀x,(enc x).length=k):∀(l:List α) (i:Nat),(l.flatMap enc).take (i*k)=(l.take i).flatMap enc
 |[],i=>by simp
 |x::l,0=>by simp
 |x::l,i+1=>by
  rw[lI,aG,lI,<- Ic enc k hk l i,List.take_append,kJ (by rw[hk,jS];omega),hk]
  congr 2
  rw[jS];omega
theorem JH{α:Type}(enc:α->List Value)(k:Nat)(hk:∀x,(enc x).length=k):∀(l:List α) (i:Nat),(l.flatMap enc).drop (i*k)=(l.drop i).flatMap enc
 |[],i=>by simp
 |x::l,0=>by simp
 |x::l,i+1=>by
  rw[lI,bU,<- JH enc k hk l i,List.drop_append,rQ (by rw[hk,jS];omega),hk,fJ]
  congr 1
  rw[jS];omega
section
variable {α:Type} {enc:α→List Value} {size:Nat} {e:TypeId} {w:World} {aT:Nat} {v:Value} {l:List α}
theorem Own.row(h:Own enc size e w aT v l)(hl:0<l.length):
  ∃g cap cur,v=.slice (some ⟨g,0,none⟩) l.length cap/\aT<=g/\iJ w g e cur/\l.length<=cap/\cap<=maxLen/\cur.length=cap*size/\cur.take (l.length*size)=l.flatMap enc:=by
 rcases h.2 with⟨_,h0⟩|⟨g,cap,cur,h1,h2,h3,h4,h5,h6,h7⟩
 ·omega
 ·exact⟨g,cap,cur.toList,h1,h2,by unfold iJ;simpa using h3,h4,h5,by simpa using h6,h7⟩
theorem Own.OA(hk:∀x,(enc x).length=size){g cap:Nat}{cur:List Value}(hb:aT<=g)(hg:iJ w g e cur)(h1:l.length<=cap)(h2:cap<=maxLen)(h3:cur.length=cap*size)(h4:cur.take (l.length*size)=l.flatMap enc):
  Own enc size e w aT (.slice (some g) l.length cap) l:=
 ⟨lU enc size hk l,.inr ⟨g,cap,cur.toArray,rfl,hb,hg,h1,h2,by simpa using h3,by simpa using h4⟩⟩
end
theorem jkl{α:Type}(enc:α->List Value)(k:Nat)(hk:∀x,(enc x).length=k){l:List α}{i j:Nat}(hi:i<l.length)(hj:j<k){y:α}{u:Value}(hy:enc y=(enc l[i]).set j u):(l.set i y).flatMap enc=(l.flatMap enc).set (i*k+j) u:=by
 induction l generalizing i with
 |nil=>simp at hi
 |cons x l ih=>
  cases i with
  |zero=>
   simp only[bG,lI,EL,fM];simp only[Bq]at hy
   rw[hy,List.set_append_left _ _ (by rw[hk];exact hj)]
  |succ i=>
   simp only[bH,lI];simp only[pF]at hy
   rw[ih (by simpa using hi) hy,nP _ _ (by rw[hk,jS];omega),hk]
   congr 2
   rw[jS];omega
theorem Own.store{α:Type}{enc:α->List Value}{size:Nat}{e:TypeId}{w:World}{aT:Nat}{l:List α}{g n c:Nat}(h:Own enc size e w aT (.slice (some g) n c) l)(hk:∀x,(enc x).length=size)
  {i j:Nat} (hi:i<l.length) (hj:j<size) {y:α} {u:Value} (hy:enc y=(enc l[i]).set j u):
  Own enc size e (w.setCell ⟨g,i*size+j,none⟩ u) aT (.slice (some g) n c) (l.set i y)/\w.grownBy (w.setCell ⟨g,i*size+j,none⟩ u) (some g):=by
 obtain⟨A,c',hv⟩:=h.isSlice;injection hv with h1 h2 h3
 subst h2;obtain⟨s1,s2⟩:=World.ownsRow.stored h (i*size+j) u;refine⟨?_,s2⟩
 unfold Own;rw[jL,jkl enc size hk hi hj hy];exact s1
theorem Dc(w:World)(cs:Array Value)(e:TypeId):∀j u,cs.toList[j]?=some u->(w.alloc (.cells cs e)).cell? ((⟨w.heap.size,0,none⟩:Addr).add j)=some u:=λj u hj=>by
 rw[gy,fM];exact(iJ.new w e cs).cell hj
end
section
def qJ(t:Array Value)(ds:List Nat)(f:Nat->Value):Array Value:=ds.foldl (λt d=>t.setIfInBounds d (f d)) t
def kP(a:Act)(l:List Oper)(f:Nat->Value):Act:={a with tmps:=qJ a.tmps (l.filterMap (·.dst)) f}
def upd(f:Nat->Value)(d:Nat)(v:Value)(k:Nat):Value:=if k=d then v else f k
theorem Ie(ds:List Nat)(f:Nat->Value):∀(t:Array Value) (k:Nat),(qJ t ds f)[k]?=if k<t.size then(if k∈ds then some (f k)else t[k]?)else none:=by
 induction ds with
 |nil=>
  intro t k;show t[k]?=_;by_cases h:k<t.size
  ·simp[h]
  ·simp[h]
 |cons d ds ih=>
  intro t k;show(qJ (t.setIfInBounds d (f d)) ds f)[k]?=_;rw[ih,vC,su]
  by_cases h:k<t.size
  ·by_cases hk:k∈ds
   ·simp[h,hk]
   ·by_cases hd:d=k
    ·subst hd;simp[h,hk]
    ·have hd':¬k=d:=λe=>hd e.symm
     simp[h,hk,hd,hd']
  ·simp[h]
theorem ZV{t:Array Value}{ds:List Nat}{f:Nat->Value}{d:Nat}(hd:d∈ds)(v:Value):(qJ t ds f).setIfInBounds d v=qJ t ds (upd f d v):=by
 apply pI;intro k;rw[su,Ie,Ie]
 have hs:(qJ t ds f).size=t.size:=by
  unfold qJ;induction ds generalizing t with
  |nil=>rfl
  |cons e ds ih=>
   by_cases h:d∈ds
   ·rw[dA,ih h,vC]
   ·have aux:∀(ds:List Nat) (t:Array Value),(ds.foldl (λt d=>t.setIfInBounds d (f d)) t).size=t.size:=by
     intro ds;induction ds with
     |nil=>intro t;rfl
     |cons x xs ihx=>intro t;rw[dA,ihx,vC]
    exact aux _ _
 rw[hs];unfold upd;by_cases h:k<t.size
 ·by_cases hk:d=k
  ·subst hk;simp[h,hd]
  ·have hk':¬k=d:=λe=>hk e.symm
   simp[h,hk,hk']
 ·by_cases hk:d=k
  ·subst hk;simp[h]
  ·simp[h,hk]
theorem XY(t:Array Value)(ds:List Nat):qJ t ds (λd=>t.getD d undef)=t:=by
 apply pI;intro k;rw[Ie];by_cases h:k<t.size
 ·by_cases hk:k∈ds<;>simp[h,hk,Array.getD]
 ·simp[h]
inductive TJ(l:List Oper):Nat->Nat->Prop
 |self (i:Nat):TJ l i i
 |eU {j k i:Nat} {o:Oper} {e:Edge}:l[i]?=some o->e∈o.after->Region.binds .any e=true->e.on=k->TJ l j k->TJ l j i
def xB(f:Nat->Value)(d:Option Nat)(v:Value):Nat->Value:=match d with|some d=>upd f d v|none=>f
def G6(n:Nat)(R:Nat->(Nat->Value)->World->Prop)(f:Nat->Value)(w:World)(o:Oper):Prop:=
 ∀e∈o.after,Region.binds .any e=true->e.on<n->R e.on f w
theorem G6.d{n:Nat}{R:Nat->(Nat->Value)->World->Prop}{f:Nat->Value}{w:World}{o:Oper}(h:G6 n R f w o)(i:Nat)(hm:({on:=i,ground:=.data}:Edge)∈o.after:=by simp)(hb:Region.binds .any {on:=i,ground:=.data}=true:=by rfl)(hn:i<n:=by decide):R i f w:=h _ hm hb hn
def XE(m n:Nat):Array Bool:=Array.replicate n true++Array.replicate (m - n) false
def Oz(l:List Oper)(n:Nat):Bool:=
 (decide (n=l.length)||(decide (n<l.length)&&Region.sinkB .any l.toArray n&&Region.chainB .any l.toArray n))&&Region.seqB .any l.toArray (l.length - n) n (XE l.length n)&&
 (l.take n).all (λo=>o.guard.isNone)&&decide ((l.take n).filterMap (·.dst)).Nodup&&(List.range n).all λi=>((l[i]?).map λo=>o.after.all λe=>!Region.binds .any e||decide (e.on<i)).getD true
def unl(gU:Array Bool)(n:Nat):Nat:=(List.range n).countP λi=>!gU.getD i true
theorem Ip{gU:Array Bool}{i:Nat}(d:Bool)(hs:i<gU.size):(gU.setIfInBounds i true).getD i d=true:=by simp[Array.getD,hs]
theorem Qb{gU:Array Bool}{i:Nat}(hi:gU.getD i true=false):i<gU.size:=by
 rcases rH i gU.size with h|h
 ·exact h
 ·simp[iF h]at hi
theorem jfJ{gU:Array Bool}{i:Nat}(hi:gU.getD i true=false):∀n,unl (gU.setIfInBounds i true) n+(if i<n then 1 else 0)=unl gU n:=by
 have hs:=Qb hi;intro n;induction n with
 |zero=>simp[unl]
 |succ n ih=>
  unfold unl at ih ⊢
  rw[nU,vP,vP];by_cases h:i=n
  ·subst h;rw[au (by omega)]at ih
   rw[aB (by omega)]
   simp only[Cj,hi,Ip true hs,zK,rW,iV,wW,uY];omega
  ·have e:(List.countP (λj=>!(gU.setIfInBounds i true).getD j true) [n])=List.countP (λj=>!gU.getD j true) [n]:=by
    simp only[Cj,qR true h]
   rw[e];by_cases hlt:i<n
   ·rw[aB hlt]at ih
    rw[aB (by omega)]
    omega
   ·rw[au hlt]at ih
    rw[au (by omega)]
    omega
theorem Oq{gU:Array Bool}{n:Nat}(h:unl gU n=0){i:Nat}(hi:i<n):gU.getD i true=true:=by
 unfold unl at h
 rw[List.countP_eq_zero]at h
 have:=h i (jq.2 hi);simpa using this
theorem jfK{gU:Array Bool}{n:Nat}(h:0<unl gU n):∃i,i<n/\gU.getD i true=false:=by
 unfold unl at h
 rw[List.countP_pos_iff]at h
 obtain⟨i,hi,hp⟩:=h;exact⟨i,jq.1 hi,by simpa using hp⟩
section
variable {P:Program} {l:List Oper} {n:Nat} {R:Nat→(Nat→Value)→World→Prop} {Q:Exit→Act→World→Prop} {a:Act} {w:World}
theorem Qg{i d:Nat}{o:Oper}(hi:l[i]?=some o)(hin:i<n)(hd:o.dst=some d):d∈(l.take n).filterMap (·.dst):=by
 rw[List.mem_filterMap];refine⟨o,?_,hd⟩
 rw[xQ];exact⟨i,by rw[jG];simp[hin,hi]⟩
theorem jkw{i j d d':Nat}{o o':Oper}(hn:((l.take n).filterMap (·.dst)).Nodup)(hi:l[i]?=some o)(hin:i<n)(hd:o.dst=some d)(hj:l[j]?=some o')(hjn:j<n)(hd':o'.dst=some d')(hne:i≠j):d≠d':=by
 intro e;subst e;have key:∀(l:List Oper),(l.filterMap (·.dst)).Nodup->∀(i j:Nat) (o o':Oper),l[i]?=some o->l[j]?=some o'->o.dst=some d->o'.dst=some d->i<j->False:=by
  intro l;induction l with
  |nil=>intro _ i j o o' h;simp at h
  |cons x l ih=>
   intro hn i j o o' hi hj hd hd' hlt;have hnl:(l.filterMap (·.dst)).Nodup:=by
    cases hx:x.dst with
    |none=>rw[List.filterMap_cons_none hx]at hn;exact hn
    |some y=>rw[Ag hx]at hn;exact(uD.1 hn).2
   cases i with
   |zero=>
    simp at hi
    subst hi;rw[Ag hd]at hn
    obtain⟨j,rfl⟩:∃k,j=k+1:=⟨j - 1,by omega⟩
    refine(uD.1 hn).1 ?_
    rw[List.mem_filterMap];exact⟨o',qC (by simpa using hj),hd'⟩
   |succ i=>
    obtain⟨j,rfl⟩:∃k,j=k+1:=⟨j - 1,by omega⟩
    exact ih hnl i j o o' (by simpa using hi) (by simpa using hj) hd hd' (by omega)
 have hi':(l.take n)[i]?=some o:=by rw[jG];simp[hin,hi]
 have hj':(l.take n)[j]?=some o':=by rw[jG];simp[hjn,hj]
 rcases Nat.lt_or_gt_of_ne hne with h|h
 ·exact key _ hn i j o o' hi' hj' hd hd' h
 ·exact key _ hn j i o' o hj' hi' hd' hd h
def TN(g:Nat->Value):Operand->Value
 | .tmp t=>g t
 | .const v=>v
 | .global b=>.pointer (some b)
 | .func f=>.func (.func f) #[] #[]
theorem jdr(a:Act):a.eval=TN (λd=>a.tmps.getD d undef):=by
 funext x
 cases x<;>rfl
def iq(P:Program)(o:Oper)(ev:Operand->Value)(w:World)(K:Value->World->Prop):Prop:=
 match(execOp ev o).run P w with
 | .ok (.value v) w'=>K v w'
 | .ok .skip w'=>K undef w'
 | .ok (.enter f args) w'=>Calls P f args w' λe w''=>∃v,e=.returned v/\K v w''
 |_=>False
theorem iq.wp{P:Program}{o:Oper}{a:Act}{w:World}{K:Value->World->Prop}{Q:Exit->Act->World->Prop}(h:iq P o a.eval w K):o.wp P a w (λa' w'=>∃v,a'=a.put o.dst v/\K v w') Q:=by
 unfold iq at h
 unfold Oper.wp;generalize (execOp a.eval o).run P w=r at*
 cases r with
 |ok n w'=>
  cases n<;>simp only[Oper.upon]at h ⊢
  case value v=>exact⟨v,rfl,h⟩
  case skip=>exact⟨undef,rfl,h⟩
  case enter f args=>
   refine h.mono ?_
   rintro e w'' ⟨v,rfl,hk⟩;exact⟨v,rfl,hk⟩
  all_goals exact h.elim
 |halt x w'=>exact(h:False).elim
abbrev uq:=(Nat->Value)->World->Prop
def atR(Rs:List uq)(i:Nat):uq:=Rs.getD i (λ_ _=>True)
def Jh:List uq->(Nat->Value)->World->Prop
 |[],_,_=>True
 |p::r,g,w=>p g w/\Jh r g w
theorem Jh.of{Rs:List uq}{g:Nat->Value}{w:World}(h:∀i,i<Rs.length->atR Rs i g w):Jh Rs g w:=by
 induction Rs with
 |nil=>trivial
 |cons p r ih=>exact⟨h 0 (by simp),ih λi hi=>h (i+1) (by simp;omega)⟩
theorem jF(g:Nat->Value)(t:Nat):TN g (.tmp t)=g t:=rfl
theorem iY(g:Nat->Value)(v:Value):TN g (.const v)=v:=rfl
theorem jI(g:Nat->Value)(f:FuncId):TN g (.func f)=.func (.func f) #[] #[]:=rfl
end
end
section
section
variable {P:Program} {l:List Oper} {n:Nat} {R:Nat→(Nat→Value)→World→Prop} {Q:Exit→Act→World→Prop} {a:Act} {w:World}
def Ahead(l:List Oper)(brk i:Nat):Prop:=i=brk\/∃o e,l[brk]?=some o/\e∈o.after/\Region.binds .any e=true/\e.on=i
def TF(P:Program)(l:List Oper)(n:Nat)(R:Nat->(Nat->Value)->World->Prop)(Q:Exit->Act->World->Prop)(a:Act)(T J:World->Prop)(Eb:World->World->Prop)(brk i:Nat)(o:Oper):Prop:=
 ∀f w',T w'->(Ahead l brk i->J w')->G6 n R f w' o->
  o.wp P (kP a (l.take n) f) w' (λa' w''=>∃v,a'=(kP a (l.take n) f).put o.dst v/\R i (xB f o.dst v) w''/\((i≠brk/\Below w' w' w'')\/(i=brk/\Eb w' w''))) Q
theorem jgu{T J:World->Prop}{Eb:World->World->Prop}{brk:Nat}(hT1:∀w1 w2,T w1->Below w1.heap.size w1 w2->T w2)(hT2:∀w1 w2,T w1->Eb w1 w2->T w2)(hJ:∀w1 w2,J w1->Below w1.heap.size w1 w2->J w2)(hle:n<=l.length)(jcN:∀gU,HeadInv .any l.toArray n gU->∀i,i<n->gU.getD i true=false->∀t,n<=t->t ∉ Region.ready .any l.toArray gU)(hseq:Region.seqB .any l.toArray (l.length - n) n (XE l.length n)=true)
  (hg:∀i o,i<n->l[i]?=some o->o.guard=none) (hnd:((l.take n).filterMap (·.dst)).Nodup) (Ko:∀i o,i<n->l[i]?=some o->∀e∈o.after,Region.binds .any e=true->e.on<i)
  (hst:∀i g w1 w2,R i g w1->Below w1.heap.size w1 w2->R i g w2) (hst2:∀i g w1 w2,i≠brk->R i g w1->Eb w1 w2->R i g w2) (I7:∀i g g' w,(∀j o d,TJ l j i->l[j]?=some o->o.dst=some d->g d=g' d)->R i g w->R i g' w) (Nz:∀i o,i<n->l[i]?=some o->TF P l n R Q a T J Eb brk i o)
  (hend:∀f w',T w'->(∀i,i<n->R i f w')->wpList P l.toArray Q (l.drop n) (kP a (l.take n) f) w'):
  ∀(k:Nat) (gU:Array Bool) (f:Nat->Value) (w':World),HeadInv .any l.toArray n gU->unl gU n=k->T w'->(gU.getD brk false=false->J w')->(∀i,i<n->gU.getD i false=true->R i f w')->
   wpAny P .any l.toArray Q (k+(l.length - n)) gU (kP a (l.take n) f) w'
 |0,gU,f,w',inv,hk,hb,_,hR=>by
  have hsz:gU.size=l.length:=by rw[inv.size];simp
  have he:gU=XE l.length n:=by
   apply pI;intro i;unfold XE;rw[CJ]
   simp only[Dt];by_cases hi:i<n
   ·rw[aB hi];have h1:=Oq hk hi;have h2:i<gU.size:=by omega
    simp[hi,h2,Array.getD]at h1 ⊢
    exact h1
   ·rw[au hi];by_cases hl:i<l.length
    ·have h1:=inv.tail i (by omega) (by simpa using hl)
     have h2:i<gU.size:=by omega
     have h3:i - n<l.length - n:=by omega
     simp[h2,h3,Array.getD]at h1 ⊢
     exact h1
    ·rw[iF (by omega),iF (by simp;omega)]
  have hd:l.length - n=(l.drop n).length:=by simp
  rw[fM,hd];refine wpAny_of_seq (l.drop n) n gU _ w' (λj=>by simp) (by rw[he,<- hd];exact hseq) (hend f w' hb λi hin=>hR i hin ?_)
  have h1:=Oq hk hin;have h2:i<gU.size:=by omega
  simp[h2,Array.getD]at h1 ⊢
  exact h1
 |k+1,gU,f,w',inv,hk,hb,hJw,hR=>by
  have hsz:gU.size=l.length:=by rw[inv.size];simp
  obtain⟨i0,hi0,hu0⟩:=jfK (show 0<unl gU n by omega)
  have hne:∀i,i<n->gU.getD i true=false->Region.ready .any l.toArray gU≠[]:=by
   intro i;induction i using Nat.strongRecOn with
   |_ i ih=>
    intro hin hu;have hil:i<l.length:=by omega
    by_cases kQ:∀e∈(l[i]).after,Region.binds .any e=true->gU.getD e.on false=true
    ·have:i∈Region.ready .any l.toArray gU:=yu.2 ⟨hu,l[i],by simp[hil],kQ⟩
     intro h0;rw[h0]at this
     cases this
    ·simp only[Dq]at kQ
     obtain⟨e,he,hbd,hno⟩:=kQ;have hlt:=Ko i l[i] hin (by simp[hil]) e he hbd
     exact ih e.on hlt (by omega) (getD_in (by omega) (by simpa using hno))
  rw[show k+1+(l.length - n)=(k+(l.length - n))+1 by omega]
  refine⟨λh0=>absurd h0 (hne i0 hi0 hu0),λi hi=>?_⟩
  have hin:i<n:=by
   rcases rH i n with h|h
   ·exact h
   ·exact absurd hi (jcN gU inv i0 hi0 hu0 i h)
  obtain⟨hu,o,ho,kQ⟩:=yu.1 hi;have ho':l[i]?=some o:=by simpa using ho
  have hgd:=hg i o hin ho';have h1:=Nz i o hin ho' f w' hb (λe=>hJw (by
   rcases e with rfl|⟨ob,eb,hob,heb,hbd,rfl⟩
   ·exact getD_both hu
   ·cases hl:gU.getD brk false
    ·rfl
    ·have:=inv.closed brk ob (by simpa using hob) hl eb heb hbd
     rw[getD_both hu]at this
     cases this)) λe he hbd hen=>hR e.on hen (kQ e he hbd)
  unfold wpOp;simp only[ho];rw[aB (by simp[Region.wanted,hgd])]
  refine .inl (xW ?_ h1)
  rintro a' w'' ⟨v,rfl,hv,hbw⟩;have hcount:unl (gU.setIfInBounds i true) n=k:=by
   have:=jfJ hu n;rw[aB hin]at this
   omega
  have hb2:T w'':=by
   rcases hbw with⟨_,hbw⟩|⟨_,hbw⟩
   ·exact hT1 _ _ hb hbw
   ·exact hT2 _ _ hb hbw
  have hJ2:(gU.setIfInBounds i true).getD brk false=false->J w'':=λh=>by
   rcases hbw with⟨hne,hbw⟩|⟨rfl,_⟩
   ·rw[qR false hne]at h
    exact hJ _ _ (hJw h) hbw
   ·rw[Ip false (Qb hu)]at h
    cases h
  have jbd:∀j k,TJ l j k->k<n->gU.getD k false=true->j<n/\gU.getD j false=true:=by
   intro j k h;induction h with
   |self=>exact λh1 h2=>⟨h1,h2⟩
   |eU ho he hbd hon _ ih=>
    intro h1 h2;subst hon;have:=Ko _ _ h1 ho _ he hbd;exact ih (by omega) (inv.closed _ _ (by simpa using ho) h2 _ he hbd)
  have dw:(kP a (l.take n) f).put o.dst v=kP a (l.take n) (xB f o.dst v):=by
   cases hdst:o.dst with
   |none=>rfl
   |some d0=>
    unfold kP Act.put xB;simp only;rw[ZV (Qg ho' hin hdst)]
  rw[dw];refine jgu hT1 hT2 hJ hle jcN hseq hg hnd Ko hst hst2 I7 Nz hend k _ (xB f o.dst v) w'' (inv.set hi hin) hcount hb2 hJ2 λj hjn hl=>?_
  by_cases hij:i=j
  ·subst hij;exact hv
  ·rw[qR false hij]at hl
   refine I7 j f _ _ (λj' oj d haj hoj hd=>?_) (by
    rcases hbw with⟨_,hbw⟩|⟨rfl,hbw⟩
    ·exact hst _ _ _ _ (hR j hjn hl) hbw
    ·exact hst2 _ _ _ _ (λe=>hij e.symm) (hR j hjn hl) hbw)
   obtain⟨joG,jjy⟩:=jbd _ _ haj hjn hl;cases hdst:o.dst with
   |none=>rfl
   |some d0=>
    have hne:i≠j':=λe=>by
     subst e;rw[getD_both hu]at jjy
     cases jjy
    have hdd:=jkw hnd ho' hin hdst hoj joG hd hne;unfold xB upd;simp only;rw[au (λe=>hdd e.symm)]
theorem jmD(n:Nat)(T J:World->Prop)(Eb:World->World->Prop)(brk:Nat)(R:Nat->(Nat->Value)->World->Prop)(hB:Oz l n=true)(hT1:∀w1 w2,T w1->Below w1.heap.size w1 w2->T w2)(hT2:∀w1 w2,T w1->Eb w1 w2->T w2)(hJ:∀w1 w2,J w1->Below w1.heap.size w1 w2->J w2)(hT0:T w.drew)(hJ0:J w.drew)
  (hst:∀i g w1 w2,R i g w1->Below w1.heap.size w1 w2->R i g w2) (hst2:∀i g w1 w2,i≠brk->R i g w1->Eb w1 w2->R i g w2)
  (I7:∀i g g' w,(∀j o d,TJ l j i->l[j]?=some o->o.dst=some d->g d=g' d)->R i g w->R i g' w) (Nz:∀i o,i<n->l[i]?=some o->TF P l n R Q a T J Eb brk i o)
  (hend:∀f w',T w'->(∀i,i<n->R i f w')->wpList P l.toArray Q (l.drop n) (kP a (l.take n) f) w'):wpAny P .any l.toArray Q l.toArray.size (Array.replicate l.toArray.size false) a w.drew:=by
 simp only[Oz,dF,jY,dI,bJ]at hB
 obtain⟨⟨⟨⟨hw,hseq⟩,hg⟩,hnd⟩,Ko⟩:=hB;have hle:n<=l.length:=by rcases hw with h|h<;>omega
 have hat:∀i o,i<n->l[i]?=some o->o∈l.take n:=λi o hin hi=>by
  rw[xQ];exact⟨i,by rw[jG];simp[hin,hi]⟩
 have H:=jgu (P:=P) (Q:=Q) (a:=a) hT1 hT2 hJ hle ?_ hseq (λi o hin hi=>by simpa using hg o (hat i o hin hi)) hnd ?_ hst hst2 I7 Nz hend n (Array.replicate l.toArray.size false) (λd=>a.tmps.getD d undef) w.drew
  ⟨by simp,λj oj _ hl=>(by rw[getD_replicate_false]at hl;cases hl),λt _ ht=>getD_in (by simpa using ht) (getD_replicate_false _ _)⟩ ?_ hT0 (λ_=>hJ0) (λi _ hl=>by rw[getD_replicate_false]at hl;cases hl)
 ·have e:kP a (l.take n) (λd=>a.tmps.getD d undef)=a:=by
   unfold kP;rw[XY]
  rw[e]at H
  have hs:n+(l.length - n)=l.toArray.size:=by simp;omega
  rw[hs]at H
  exact H
 ·intro gU inv i hin hu t ht hr;rcases hw with h|⟨⟨h1,h2⟩,h3⟩
  ·obtain⟨_,o,ho,_⟩:=yu.1 hr;have:=(bI.1 ho).1
   simp at this
   omega
  ·exact tail_waits h2 h3 (by simpa using h1) inv (n - i) i rfl hin hu t ht hr
 ·intro i o hin hi e he hbd;have:=Ko i (jq.2 hin);rw[hi]at this
  simp only[jr,ku,nM,jY,qp,dI]at this
  rcases this e he with h|h
  ·rw[h]at hbd;cases hbd
  ·exact h
 ·have key:∀m,m<=l.length->unl (Array.replicate l.toArray.size false) m=m:=by
   intro m;induction m with
   |zero=>intro _;rfl
   |succ m ih=>
    intro hm;have:=ih (by omega)
    unfold unl at this ⊢
    have hml:m<l.length:=by omega
    rw[nU,vP,this];simp[hml]
  exact key n hle
theorem iq.mono{P:Program}{o:Oper}{ev:Operand->Value}{w:World}{K K':Value->World->Prop}(hk:∀v w,K v w->K' v w)(h:iq P o ev w K):iq P o ev w K':=by
 unfold iq at*
 generalize (execOp ev o).run P w=r at*
 cases r with
 |ok n w'=>
  cases n<;>simp only at h ⊢
  case value v=>exact hk _ _ h
  case skip=>exact hk _ _ h
  case enter f args=>exact h.mono λe w'' ⟨v,he,h⟩=>⟨v,he,hk _ _ h⟩
 |halt x w'=>exact h
theorem TF.of{T J:World->Prop}{Eb:World->World->Prop}{brk:Nat}{i:Nat}{o:Oper}(hi:i<n)(hB:Oz l n=true)(hsz:((l.take n).filterMap (·.dst)).all (λd=>decide (d<a.tmps.size))=true)
  (I7:∀i g g' w,(∀j o d,TJ l j i->l[j]?=some o->o.dst=some d->g d=g' d)->R i g w->R i g' w)
  (h:∀(g:Nat->Value) w',T w'->(Ahead l brk i->J w')->(∀d,((l.take n).filterMap (·.dst)).contains d=false->g d=a.tmps.getD d undef)->G6 n R g w' o->iq P o (TN g) w' λv w''=>R i (xB g o.dst v) w''/\((i≠brk/\Below w' w' w'')\/(i=brk/\Eb w' w''))):
  TF P l n R Q a T J Eb brk i o:=by
 simp only[Oz,dF,jY,dI,bJ]at hB
 obtain⟨_,Ko⟩:=hB;have jfc:∀k oe,k<n->l[k]?=some oe->∀e∈oe.after,Region.binds .any e=true->e.on<k:=λk oe hk hoe e he hbd=>by
  have:=Ko k (jq.2 hk);rw[hoe]at this
  simp only[jr,ku,nM,jY,qp,dI]at this
  rcases this e he with h|h
  ·rw[h]at hbd;cases hbd
  ·exact h
 have jbd:∀j k,TJ l j k->k<n->j<n:=by
  intro j k h;induction h with
  |self=>exact id
  |eU ho he hbd hon _ ih=>
   intro h1;subst hon;have:=jfc _ _ h1 ho _ he hbd;exact ih (by omega)
 have hsz':∀d∈(l.take n).filterMap (·.dst),d<a.tmps.size:=λd hd=>by
  have:=bJ.1 hsz d hd;simpa using this
 intro f w' hb hj hd;have hg:∀d∈(l.take n).filterMap (·.dst),(kP a (l.take n) f).tmps.getD d undef=f d:=λd hd=>by
  have h1:=Ie ((l.take n).filterMap (·.dst)) f a.tmps d
  rw[aB (hsz' d hd),aB hd]at h1
  unfold kP;simp only[lg,h1,ku]
 have ho:∀d,((l.take n).filterMap (·.dst)).contains d=false->(kP a (l.take n) f).tmps.getD d undef=a.tmps.getD d undef:=λd hd=>by
  have h1:=Ie ((l.take n).filterMap (·.dst)) f a.tmps d
  have h2:d ∉ (l.take n).filterMap (·.dst):=by simpa using hd
  rw[au h2]at h1
  unfold kP;simp only[lg,h1];by_cases hl:d<a.tmps.size
  ·rw[aB hl]
  ·rw[au hl,iF (xC hl)]
 have key:=h (λd=>(kP a (l.take n) f).tmps.getD d undef) w' hb hj ho (λe he hbd hen=>I7 e.on f _ _ (λj oj d haj hoj hdj=>(hg d (Qg hoj (jbd _ _ haj hen) hdj)).symm) (hd e he hbd hen))
 rw[<- jdr]at key
 refine xW ?_ key.wp
 rintro a' w'' ⟨v,rfl,hr,hbw⟩;refine⟨v,rfl,I7 i _ _ _ (λj oj d haj hoj hdj=>?_) hr,hbw⟩
 have hjn:=jbd _ _ haj hi;have hmem:=Qg hoj hjn hdj;cases hdst:o.dst with
 |none=>exact hg d hmem
 |some d0=>
  unfold xB upd;simp only;split
  ·rfl
  ·exact hg d hmem
def CW(P:Program)(l:List Oper)(n:Nat)(Rs:List uq)(a:Act)(T J:World->Prop)(Eb:World->World->Prop)(brk i:Nat)(o:Oper)(p:uq):Prop:=
 (∀g w1 w2,p g w1->Below w1.heap.size w1 w2->p g w2)/\(i≠brk->∀g w1 w2,p g w1->Eb w1 w2->p g w2)/\(∀g g' w,(∀j o d,TJ l j i->l[j]?=some o->o.dst=some d->g d=g' d)->p g w->p g' w)/\
 ∀g w',T w'->(Ahead l brk i->J w')->(∀d,((l.take n).filterMap (·.dst)).contains d=false->g d=a.tmps.getD d undef)->G6 n (atR Rs) g w' o->
  iq P o (TN g) w' λv w''=>p (xB g o.dst v) w''/\((i≠brk/\Below w' w' w'')\/(i=brk/\Eb w' w''))
def fQ(P:Program)(l:List Oper)(n:Nat)(Rs:List uq)(a:Act)(T J:World->Prop)(Eb:World->World->Prop)(brk:Nat):Nat->List Oper->List uq->Prop
 |_,[],_=>True
 |_,_::_,[]=>False
 |i,o::r,p::ps=>CW P l n Rs a T J Eb brk i o p/\fQ P l n Rs a T J Eb brk (i+1) r ps
section
variable {Rs:List uq} {T J:World→Prop} {Eb:World→World→Prop} {brk:Nat}
theorem fQ.at:∀ {r:List Oper} {ps:List uq} {k:Nat},fQ P l n Rs a T J Eb brk k r ps->∀ {j:Nat} {o:Oper},r[j]?=some o->CW P l n Rs a T J Eb brk (k+j) o (ps.getD j (λ_ _=>True))
 |[],_,_,_,_,_,h=>by simp at h
 |_::_,[],_,h,_,_,_=>h.elim
 |x::r,p::ps,k,h,0,o,hj=>by
  simp at hj
  subst hj;exact h.1
 |x::r,p::ps,k,h,j+1,o,hj=>by
  have:=fQ.at h.2 (j:=j) (o:=o) (by simpa using hj)
  rw[show k+1+j=k+(j+1)by omega]at this
  simpa using this
theorem fQ.nil{i:Nat}{ps:List uq}:fQ P l n Rs a T J Eb brk i [] ps:=by cases ps<;>trivial
theorem fQ.cons{i:Nat}{o:Oper}{r:List Oper}{p:uq}{ps:List uq}(h:CW P l n Rs a T J Eb brk i o p)(h':fQ P l n Rs a T J Eb brk (i+1) r ps):fQ P l n Rs a T J Eb brk i (o::r) (p::ps):=⟨h,h'⟩
end
theorem Yj(n:Nat)(T J:World->Prop)(Eb:World->World->Prop)(brk:Nat)(Rs:List uq)(hB:Oz l n=true)(hn:Rs.length=n)(hsz:((l.take n).filterMap (·.dst)).all (λd=>decide (d<a.tmps.size))=true)
  (hT1:∀w1 w2,T w1->Below w1.heap.size w1 w2->T w2) (hT2:∀w1 w2,T w1->Eb w1 w2->T w2) (hJ:∀w1 w2,J w1->Below w1.heap.size w1 w2->J w2) (hT0:T w.drew) (hJ0:J w.drew)
  (hops:fQ P l n Rs a T J Eb brk 0 (l.take n) Rs) (hend:∀f w',T w'->Jh Rs f w'->wpList P l.toArray Q (l.drop n) (kP a (l.take n) f) w'):wpAny P .any l.toArray Q l.toArray.size (Array.replicate l.toArray.size false) a w.drew:=by
 have hle:n<=l.length:=by
  have:=hB;simp only[Oz,dF,jY,dI]at this
  rcases this.1.1.1.1 with h|h<;>omega
 have hat:∀i,i<n->∃o,l[i]?=some o/\CW P l n Rs a T J Eb brk i o (atR Rs i):=λi hi=>by
  have hil:i<l.length:=by omega
  refine⟨l[i],by simp[hil],?_⟩
  have:=hops.at (j:=i) (o:=l[i]) (by rw[jG];simp[hi,hil])
  rwa [fM]at this
 have Xu:∀i g w,¬i<n->atR Rs i g w:=λi g w hi=>by
  unfold atR;rw[fK,qg (by omega)]
  trivial
 have I7:∀i g g' w,(∀j o d,TJ l j i->l[j]?=some o->o.dst=some d->g d=g' d)->atR Rs i g w->atR Rs i g' w:=λi g g' w1 he h=>by
  by_cases hi:i<n
  ·obtain⟨o,_,_,_,h2,_⟩:=hat i hi;exact h2 g g' w1 he h
  ·exact Xu i g' w1 hi
 refine jmD n T J Eb brk (atR Rs) hB hT1 hT2 hJ hT0 hJ0 (λi g w1 w2 h hb=>?_) (λi g w1 w2 hne h hb=>?_) I7 (λi o hi ho=>?_) (λf w' hb hR=>hend f w' hb (Jh.of λi hi=>hR i (by omega)))
 ·by_cases hi:i<n
  ·obtain⟨o,_,h1,_⟩:=hat i hi;exact h1 g w1 w2 h hb
  ·exact Xu i g w2 hi
 ·by_cases hi:i<n
  ·obtain⟨o,_,_,h1,_⟩:=hat i hi;exact h1 hne g w1 w2 h hb
  ·exact Xu i g w2 hi
 ·obtain⟨o',ho',_,_,_,h3⟩:=hat i hi;rw[ho]at ho'
  injection ho' with ho'
  subst ho';exact TF.of hi hB hsz I7 h3
theorem AQ(n:Nat)(T J:World->Prop)(Eb:World->World->Prop)(brk:Nat)(Rs:List uq){id:Nat}(hm:P.follows .mixedOrders=true)(hB:Oz l n=true)(hn:Rs.length=n)(hsz:((l.take n).filterMap (·.dst)).all (λd=>decide (d<a.tmps.size))=true)
  (hT1:∀w1 w2,T w1->Below w1.heap.size w1 w2->T w2) (hT2:∀w1 w2,T w1->Eb w1 w2->T w2) (hJ:∀w1 w2,J w1->Below w1.heap.size w1 w2->J w2) (hT0:T w.drew) (hJ0:J w.drew)
  (hops:fQ P l n Rs a T J Eb brk 0 (l.take n) Rs) (hend:∀f w',T w'->Jh Rs f w'->wpList P l.toArray Q (l.drop n) (kP a (l.take n) f) w'):(Code.region id l.toArray true).wp P Q a w:=
 DF hm (Yj n T J Eb brk Rs hB hn hsz hT1 hT2 hJ hT0 hJ0 hops hend)
section
variable {Rs:List uq} {T J:World→Prop} {Eb:World→World→Prop} {brk:Nat}
theorem CW.jpW{i d:Nat}{o:Oper}{c:Value}(hi:l[i]?=some o)(ho:o.dst=some d)(hne:i≠brk)
  (h:∀g w',T w'->(Ahead l brk i->J w')->(∀d,((l.take n).filterMap (·.dst)).contains d=false->g d=a.tmps.getD d undef)->G6 n (atR Rs) g w' o->(execOp (TN g) o).run P w'=.ok (.value c) w'):
  CW P l n Rs a T J Eb brk i o (λg _=>g d=c):=by
 refine⟨λ_ _ _ h _=>h,λ_ _ _ _ h _=>h,λg g' _ he h=>(he i o d (TJ.self i) hi ho).symm.trans h,λg w' hb hj hout hd=>?_⟩
 unfold iq;rw[h g w' hb hj hout hd];refine⟨?_,.inl ⟨hne,aj _ _⟩⟩
 rw[ho];unfold xB upd;simp
theorem CW.val{i d:Nat}{o:Oper}{c:Value}(hi:l[i]?=some o)(ho:o.dst=some d)(hne:i≠brk)
  (h:∀g w',T w'->(∀d,((l.take n).filterMap (·.dst)).contains d=false->g d=a.tmps.getD d undef)->G6 n (atR Rs) g w' o->(execOp (TN g) o).run P w'=.ok (.value c) w'):
  CW P l n Rs a T J Eb brk i o (λg _=>g d=c):=
 CW.jpW hi ho hne λg w' hT _=>h g w' hT
theorem fQ.vA{i d:Nat}{o:Oper}{c:Value}{r:List Oper}{ps:List uq}
  (h:∀g w',T w'->(Ahead l brk i->J w')->(∀d,((l.take n).filterMap (·.dst)).contains d=false->g d=a.tmps.getD d undef)->G6 n (atR Rs) g w' o->(execOp (TN g) o).run P w'=.ok (.value c) w')
  (h':fQ P l n Rs a T J Eb brk (i+1) r ps) (hi:l[i]?=some o:=by rfl) (ho:o.dst=some d:=by rfl) (hne:i≠brk:=by decide):fQ P l n Rs a T J Eb brk i (o::r) ((λg _=>g d=c)::ps):=⟨CW.jpW hi ho hne h,h'⟩
theorem fQ.v{i d:Nat}{o:Oper}{c:Value}{r:List Oper}{ps:List uq}
  (h:∀g w',T w'->(∀d,((l.take n).filterMap (·.dst)).contains d=false->g d=a.tmps.getD d undef)->G6 n (atR Rs) g w' o->(execOp (TN g) o).run P w'=.ok (.value c) w')
  (h':fQ P l n Rs a T J Eb brk (i+1) r ps) (hi:l[i]?=some o:=by rfl) (ho:o.dst=some d:=by rfl) (hne:i≠brk:=by decide):fQ P l n Rs a T J Eb brk i (o::r) ((λg _=>g d=c)::ps):=⟨CW.val hi ho hne h,h'⟩
theorem CW.jew{i d:Nat}{o:Oper}{p:Value->World->Prop}(hi:l[i]?=some o)(ho:o.dst=some d)(hne:i≠brk)(hst:∀v w1 w2,p v w1->Below w1.heap.size w1 w2->p v w2)(hst2:∀v w1 w2,p v w1->Eb w1 w2->p v w2)
  (h:∀g w',T w'->(Ahead l brk i->J w')->(∀d,((l.take n).filterMap (·.dst)).contains d=false->g d=a.tmps.getD d undef)->G6 n (atR Rs) g w' o->iq P o (TN g) w' λv w''=>p v w''/\Below w'.heap.size w' w''):
  CW P l n Rs a T J Eb brk i o (λg w=>p (g d) w):=by
 refine⟨λg w1 w2 h hb=>hst _ _ _ h hb,λ_ g w1 w2 h hb=>hst2 _ _ _ h hb,λg g' w1 he h=>?_,λg w' hb hj hout hd=>?_⟩
 ·show p (g' d) w1;rw[<- he i o d (TJ.self i) hi ho];exact h
 ·have h1:=h g w' hb hj hout hd;rw[ho];have e:∀v,xB g (some d) v d=v:=λv=>by unfold xB upd;simp
  simp only[e];exact iq.mono (λv w'' h=>⟨h.1,.inl ⟨hne,h.2⟩⟩) h1
theorem CW.one{i d:Nat}{o:Oper}{p:Value->World->Prop}(hi:l[i]?=some o)(ho:o.dst=some d)(hne:i≠brk)(hst:∀v w1 w2,p v w1->Below w1.heap.size w1 w2->p v w2)(hst2:∀v w1 w2,p v w1->Eb w1 w2->p v w2)
  (h:∀g w',T w'->(∀d,((l.take n).filterMap (·.dst)).contains d=false->g d=a.tmps.getD d undef)->G6 n (atR Rs) g w' o->iq P o (TN g) w' λv w''=>p v w''/\Below w'.heap.size w' w''):
  CW P l n Rs a T J Eb brk i o (λg w=>p (g d) w):=
 CW.jew hi ho hne hst hst2 λg w' hT _=>h g w' hT
end
end
end
end Wh
