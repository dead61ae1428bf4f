/- Texts of the claim, joined. -/
import Derived.Test.YtniaecolikhmeaaGreatDoorQ17
set_option maxHeartbeats 20000000
set_option maxRecDepth 100000
set_option linter.all false
namespace Wh
open Go Go.RowKit Go.Shelf Go.Proofs Tryz
section
attribute [local go_sem] aV
theorem IY{α:Type}{l:List α}{j:Nat}(hj:j<l.length)(P:α->Bool)(h:P l[j]=true):(l.take (j+1)).filter P=(l.take j).filter P++[l[j]]:=by
 rw[bM hj,jH];simp[h]
theorem Gf{α:Type}{l:List α}{j:Nat}(hj:j<l.length)(P:α->Bool)(h:P l[j]=false):(l.take (j+1)).filter P=(l.take j).filter P:=by
 rw[bM hj,jH];simp[h]
theorem jbS{α:Type}{l:List α}{P:α->Bool}(h:l.any P=true):l.findIdx P<l.length/\((l.take (l.findIdx P+1)).filter λx=>!P x)=l.take (l.findIdx P):=by
 have hlt:l.findIdx P<l.length:=List.findIdx_lt_length.2 (by obtain⟨x,hx,hp⟩:=kU.1 h;exact⟨x,hx,hp⟩)
 refine⟨hlt,?_⟩
 rw[Gf hlt _ (by have:=List.findIdx_getElem (p:=P) (xs:=l) (w:=hlt);simp[this]),oN]
 intro x hx;obtain⟨i,hi,rfl⟩:=bg hx;rw[wQ];have hi':i<l.findIdx P:=by rw[bC]at hi;omega
 have:=List.not_of_lt_findIdx hi';simp[this]
theorem jg2:(prog.info? 116).map (·.size)=some 4:=by kernel_rfl
theorem U5(w:World)(aT:Nat)(v:Value)(l:List eX)(gf:FuncId)(lb:Array Value)(del:eX->Bool)(eg:Enters prog gf)(mQ:Own iD 4 116 w aT v l)(hn:l.length<=1000000)
  (hf:∀k,k<l.length->∀W,Step (λq=>v.ownBlock=some q) w W->Calls prog gf (#[uK (hold l k)]++lb) W λe W'=>e=.returned (.bool (del (hold l k)))/\Below W.heap.size W W'):
  Calls prog 100 #[v,.func (.func gf) #[] lb] w λe w'=>∃v',e=.returned v'/\Own iD 4 116 w' aT v' (l.filter λx=>!del x)/\Step (λq=>v.ownBlock=some q) w w'/\v'.ownBlock=v.ownBlock:=by
 have hI:=ah (QF w v l gf lb del eg (mQ.sl (by omega)) (λk hk W hW=>hf k hk W (.of_below hW)))
 have hF:=ah hf;have hl:l.length<=140737488355232:=by omega
 have eg':∀args w,Sem.run prog (callFunc gf args) w=.ok (.enter gf args) w:=eg;obtain⟨A,c,rfl⟩:=mQ.isSlice;have hO:=ah mQ;clear mQ hf;go_enter func100,ntmps100
 go_wp2_with fail;refine hI.O.mono ?_
 rintro e W1 ⟨rfl,hb1⟩;cases ha:l.any del
 ·have hid:idxOf del l= -1:=by unfold idxOf;rw[ha];rfl
  have hfl:=ah (show(l.filter λx=>!del x)=l from oN.2 λx hx=>by
   have:=qo.1 ha x hx;simpa using this)
  rw[hid];clear hid ha;go_wp2_with fail;go_ret
  exact⟨.slice A l.length c,rfl,by rw[hfl.O];exact hO.O.below hb1,.of_below hb1,rfl⟩
 ·obtain⟨i0,hi0⟩:∃i0,l.findIdx del=i0:=⟨_,rfl⟩;have hid:idxOf del l=(i0:Int):=by unfold idxOf;rw[ha,hi0];rfl
  obtain⟨hlt0,jeN⟩:=jbS ha;rw[hi0]at hlt0 jeN
  obtain⟨g,c',hv,hgb,hgl⟩:=hO.O.some_ (by omega)
  injection hv with e1 _ e2
  subst e1 e2;rw[hid];have hne1:((i0:Int)== -1)=false:=by simp
  have hw0:IntKind.i64.wrap ((i0:Int)+1)=(i0:Int)+1:=by rw[jQ];omega
  have hob:=ah (show(Value.slice (some g) l.length c).ownBlock=some g from rfl)
  have htk:=ah jeN;have hcap:=ah (show l.length<=c/\c<=9223372036854775807 from by
   obtain⟨g2,c2,cur,e1,_,_,h2,h3,_⟩:=hO.O.row (by omega)
   injection e1 with _ _ e2
   subst e2;unfold maxLen at h3
   exact⟨h2,by omega⟩)
  clear hid ha hi0 jeN;go_wp2_with fail;clear hw0 hne1;go_loopw[6,5,7] (λa b _ wr=>∃(j i:Nat) (m:List eX),j<=l.length/\a=.int .i64 j/\b=.int .i64 i/\i<j/\m.length=l.length/\m.take i=((l.take j).filter λx=>!del x)/\m.drop j=l.drop j/\Own iD 4 116 wr aT (.slice (some ⟨g,0,none⟩) l.length c) m/\
   Step (λq=>(Value.slice (some g) l.length c).ownBlock=some q) w wr) (λa _ _ _=>l.length - (RowKit.intOf a).toNat)
  case atStart=>
   exact⟨i0+1,i0,l,by omega,by go_num,rfl,by omega,rfl,htk.O.symm,rfl,hO.O.below hb1,.of_below hb1⟩
  case round=>
   obtain⟨j,i,m,hj,rfl,rfl,hij,hml,hmt,hmd,hm,hst⟩:=hrel;have hmt':=ah hmt;have jjs:=ah hmd;have hm':=ah hm;have hst':=ah hst;clear hmt hmd hm hst htk;by_cases hlt:j<l.length
   ·have hji:(j:Int)<(l.length:Int):=by omega
    have hii:(i:Int)<(l.length:Int):=by omega
    have hjm:j<m.length:=by omega
    have hmj:m[j]=hold l j:=by
     have h1:(m.drop j)[0]?=(l.drop j)[0]?:=by rw[jjs.O]
     rw[mP,mP,fZ,bQ hjm,bQ hlt]at h1
     injection h1 with h1
     rw[h1,iZ hlt]
    obtain⟨g1,c1,cur,e1,_,Dz,Aj⟩:=hm'.O.at (λ_=>rfl) hjm
    injection e1 with e1 e2 e3
    injection e1 with e1
    injection e1 with e1
    subst e1;clear e2 e3;rw[hmj]at Aj
    clear hmj;have hml':=ah hml;clear hml hjm;have d0:wr.cell? ⟨g,j*4,none⟩=_:=Aj 0 _ rfl;have d1:=Aj 1 _ rfl;have d2:=Aj 2 _ rfl;have d3:=Aj 3 _ rfl;have hsa:Step (λq=>(Value.slice (some g) l.length c).ownBlock=some q) w (wr.alloc (nC (hold l j))):=hst'.O.trans (.of_below ((aj _ _).alloc (ay _) _))
    have hbl:=ah (iJ.new wr 116 (Vh (hold l j)));have hma:=ah (hm'.O.alloc (nC (hold l j)));clear Aj Dz;go_wp2_with fail;clear d0 d1 d2 d3;refine(hF.O j hlt _ hsa).mono ?_
    rintro e W3 ⟨rfl,hb3⟩;have hm3:=hma.O.below hb3;have Je:=hbl.O.below hb3 hbl.O.lt;have hst3:=ah (hsa.trans (.of_below hb3));have c0:=Je.cell (j:=0) rfl;have c1:=Je.cell (j:=1) rfl;have c2:=Je.cell (j:=2) rfl;have c3:=Je.cell (j:=3) rfl;have hdj:del l[j]=del (hold l j):=by rw[iZ hlt]
    have hd1:m.drop (j+1)=l.drop (j+1):=by rw[<- yX,jjs.O,yX]
    have OU:=ah hd1;clear hsa hma hbl hm' hst' hd1;cases hd:del (hold l j)
    ·have hyes:=ah (IY hlt (λx=>!del x) (by rw[hdj,hd];rfl))
     have hw1:IntKind.i64.wrap ((i:Int)+1)=(i:Int)+1:=by rw[jQ];omega
     clear hd hdj;go_wp2_with (refine QO rfl (.tmp 33) (.tmp 32) 116 rfl rfl hm3 (λ_=>rfl) (i:=i) (by rw[hml'.O];omega) (hold l j) jg2 (zQ _) rfl rfl (λw4 QG hg4=>?_);refine bD ?_)
     unfold Hid;have jcU:=ah QG;have joe:=ah (hst3.O.trans (.nG hg4 λk hk=>hob.O.trans hk))
     clear c0 c1 c2 c3 hm3 Je QG hg4 hb3;go_wp2_with fail;go_roundw
     case rel=>
      refine⟨j+1,i+1,m.set i (hold l j),by omega,by go_num,by go_num,by omega,by rw[jL];exact hml'.O,?_,?_,jcU.O,joe.O⟩
      ·rw[hyes.O,<- hmt'.O,iZ hlt,bM (by rw[jL,hml'.O];omega),pY,DL (ay _)]
      ·rw[DT (by omega),OU.O]
     case measure=>simp[dY];omega
    ·have hno:=ah (Gf hlt (λx=>!del x) (by rw[hdj,hd];rfl))
     have joy:=ah hm3;clear hd hdj hm3 Je hb3;go_wp2_with fail;clear c0 c1 c2 c3;go_roundw
     case rel=>exact⟨j+1,i,m,by omega,by go_num,rfl,by omega,hml'.O,by rw[hno.O];exact hmt'.O,OU.O,joy.O,hst3.O⟩
     case measure=>simp[dY];omega
   ·obtain rfl:j=l.length:=by omega
    obtain⟨W5,jjO,DC,hg5⟩:=hm'.O.cut (P:=prog) (λ_=>rfl) (i:=i) (by omega) (t:=37) underlying37 jbH rfl (by simp[Value.cells,Value.oneCell'])
    have dw:=ah (show m.take i=l.filter λx=>!del x by rw[hmt'.O,dR])
    have jor:=ah DC;have hst5:=ah (hst'.O.trans (.nG hg5 λk hk=>hob.O.trans hk))
    have hi1:(i:Int)<=(l.length:Int):=by omega
    have hcp:=hcap.O;have hi2:i<=c:=by omega
    have hi3:¬c=i:=by omega
    have hi4:i<=l.length:=by omega
    clear DC hg5 hm' hst';go_wp2_with fail;go_ret
    exact⟨.slice (some g) i c,rfl,by rw[<- dw.O];exact jor.O,hst5.O,rfl⟩
theorem jg0:(prog.info? 118).map (·.size)=some 4:=by kernel_rfl
theorem jdy(w:World)(aT:Nat)(v:Value)(l:List Move)(gf:FuncId)(lb:Array Value)(del:Move->Bool)(eg:Enters prog gf)(mQ:Own oC 4 118 w aT v l)(hn:l.length<=1000000)
  (hf:∀k,k<l.length->∀W,Step (λq=>v.ownBlock=some q) w W->Calls prog gf (#[EW (bZ l k)]++lb) W λe W'=>e=.returned (.bool (del (bZ l k)))/\Below W.heap.size W W'):
  Calls prog 156 #[v,.func (.func gf) #[] lb] w λe w'=>∃v',e=.returned v'/\Own oC 4 118 w' aT v' (l.filter λx=>!del x)/\Step (λq=>v.ownBlock=some q) w w'/\v'.ownBlock=v.ownBlock:=by
 have hI:=ah (QE w v l gf lb del eg (mQ.sl (by omega)) (λk hk W hW=>hf k hk W (.of_below hW)))
 have hF:=ah hf;have hl:l.length<=140737488355232:=by omega
 have eg':∀args w,Sem.run prog (callFunc gf args) w=.ok (.enter gf args) w:=eg;obtain⟨A,c,rfl⟩:=mQ.isSlice;have hO:=ah mQ;clear mQ hf;go_enter func156,ntmps156
 go_wp2_with fail;refine hI.O.mono ?_
 rintro e W1 ⟨rfl,hb1⟩;cases ha:l.any del
 ·have hid:idxOf del l= -1:=by unfold idxOf;rw[ha];rfl
  have hfl:=ah (show(l.filter λx=>!del x)=l from oN.2 λx hx=>by
   have:=qo.1 ha x hx;simpa using this)
  rw[hid];clear hid ha;go_wp2_with fail;go_ret
  exact⟨.slice A l.length c,rfl,by rw[hfl.O];exact hO.O.below hb1,.of_below hb1,rfl⟩
 ·obtain⟨i0,hi0⟩:∃i0,l.findIdx del=i0:=⟨_,rfl⟩;have hid:idxOf del l=(i0:Int):=by unfold idxOf;rw[ha,hi0];rfl
  obtain⟨hlt0,jeN⟩:=jbS ha;rw[hi0]at hlt0 jeN
  obtain⟨g,c',hv,hgb,hgl⟩:=hO.O.some_ (by omega)
  injection hv with e1 _ e2
  subst e1 e2;rw[hid];have hne1:((i0:Int)== -1)=false:=by simp
  have hw0:IntKind.i64.wrap ((i0:Int)+1)=(i0:Int)+1:=by rw[jQ];omega
  have hob:=ah (show(Value.slice (some g) l.length c).ownBlock=some g from rfl)
  have htk:=ah jeN;have hcap:=ah (show l.length<=c/\c<=9223372036854775807 from by
   obtain⟨g2,c2,cur,e1,_,_,h2,h3,_⟩:=hO.O.row (by omega)
   injection e1 with _ _ e2
   subst e2;unfold maxLen at h3
   exact⟨h2,by omega⟩)
  clear hid ha hi0 jeN;go_wp2_with fail;clear hw0 hne1;go_loopw[6,5,7] (λa b _ wr=>∃(j i:Nat) (m:List Move),j<=l.length/\a=.int .i64 j/\b=.int .i64 i/\i<j/\m.length=l.length/\m.take i=((l.take j).filter λx=>!del x)/\m.drop j=l.drop j/\Own oC 4 118 wr aT (.slice (some ⟨g,0,none⟩) l.length c) m/\
   Step (λq=>(Value.slice (some g) l.length c).ownBlock=some q) w wr) (λa _ _ _=>l.length - (RowKit.intOf a).toNat)
  case atStart=>
   exact⟨i0+1,i0,l,by omega,by go_num,rfl,by omega,rfl,htk.O.symm,rfl,hO.O.below hb1,.of_below hb1⟩
  case round=>
   obtain⟨j,i,m,hj,rfl,rfl,hij,hml,hmt,hmd,hm,hst⟩:=hrel;have hmt':=ah hmt;have jjs:=ah hmd;have hm':=ah hm;have hst':=ah hst;clear hmt hmd hm hst htk;by_cases hlt:j<l.length
   ·have hji:(j:Int)<(l.length:Int):=by omega
    have hii:(i:Int)<(l.length:Int):=by omega
    have hjm:j<m.length:=by omega
    have hmj:m[j]=bZ l j:=by
     have h1:(m.drop j)[0]?=(l.drop j)[0]?:=by rw[jjs.O]
     rw[mP,mP,fZ,bQ hjm,bQ hlt]at h1
     injection h1 with h1
     rw[h1,pJ hlt]
    obtain⟨g1,c1,cur,e1,_,Dz,Aj⟩:=hm'.O.at (λ_=>rfl) hjm
    injection e1 with e1 e2 e3
    injection e1 with e1
    injection e1 with e1
    subst e1;clear e2 e3;rw[hmj]at Aj
    clear hmj;have hml':=ah hml;clear hml hjm;have d0:wr.cell? ⟨g,j*4,none⟩=_:=Aj 0 _ rfl;have d1:=Aj 1 _ rfl;have d2:=Aj 2 _ rfl;have d3:=Aj 3 _ rfl;have hsa:Step (λq=>(Value.slice (some g) l.length c).ownBlock=some q) w (wr.alloc (IE (bZ l j))):=hst'.O.trans (.of_below ((aj _ _).alloc (ay _) _))
    have hbl:=ah (iJ.new wr 118 (jdR (bZ l j)));have hma:=ah (hm'.O.alloc (IE (bZ l j)));clear Aj Dz;go_wp2_with fail;clear d0 d1 d2 d3;refine(hF.O j hlt _ hsa).mono ?_
    rintro e W3 ⟨rfl,hb3⟩;have hm3:=hma.O.below hb3;have Je:=hbl.O.below hb3 hbl.O.lt;have hst3:=ah (hsa.trans (.of_below hb3));have c0:=Je.cell (j:=0) rfl;have c1:=Je.cell (j:=1) rfl;have c2:=Je.cell (j:=2) rfl;have c3:=Je.cell (j:=3) rfl;have hdj:del l[j]=del (bZ l j):=by rw[pJ hlt]
    have hd1:m.drop (j+1)=l.drop (j+1):=by rw[<- yX,jjs.O,yX]
    have OU:=ah hd1;clear hsa hma hbl hm' hst' hd1;cases hd:del (bZ l j)
    ·have hyes:=ah (IY hlt (λx=>!del x) (by rw[hdj,hd];rfl))
     have hw1:IntKind.i64.wrap ((i:Int)+1)=(i:Int)+1:=by rw[jQ];omega
     clear hd hdj;go_wp2_with (refine QO rfl (.tmp 33) (.tmp 32) 118 rfl rfl hm3 (λ_=>rfl) (i:=i) (by rw[hml'.O];omega) (bZ l j) jg0 (P6 _) rfl rfl (λw4 QG hg4=>?_);refine bD ?_)
     unfold Hid;have jcU:=ah QG;have joe:=ah (hst3.O.trans (.nG hg4 λk hk=>hob.O.trans hk))
     clear c0 c1 c2 c3 hm3 Je QG hg4 hb3;go_wp2_with fail;go_roundw
     case rel=>
      refine⟨j+1,i+1,m.set i (bZ l j),by omega,by go_num,by go_num,by omega,by rw[jL];exact hml'.O,?_,?_,jcU.O,joe.O⟩
      ·rw[hyes.O,<- hmt'.O,pJ hlt,bM (by rw[jL,hml'.O];omega),pY,DL (ay _)]
      ·rw[DT (by omega),OU.O]
     case measure=>simp[dY];omega
    ·have hno:=ah (Gf hlt (λx=>!del x) (by rw[hdj,hd];rfl))
     have joy:=ah hm3;clear hd hdj hm3 Je hb3;go_wp2_with fail;clear c0 c1 c2 c3;go_roundw
     case rel=>exact⟨j+1,i,m,by omega,by go_num,rfl,by omega,hml'.O,by rw[hno.O];exact hmt'.O,OU.O,joy.O,hst3.O⟩
     case measure=>simp[dY];omega
   ·obtain rfl:j=l.length:=by omega
    obtain⟨W5,jjO,DC,hg5⟩:=hm'.O.cut (P:=prog) (λ_=>rfl) (i:=i) (by omega) (t:=38) underlying38 jbG rfl (by simp[Value.cells,Value.oneCell'])
    have dw:=ah (show m.take i=l.filter λx=>!del x by rw[hmt'.O,dR])
    have jor:=ah DC;have hst5:=ah (hst'.O.trans (.nG hg5 λk hk=>hob.O.trans hk))
    have hi1:(i:Int)<=(l.length:Int):=by omega
    have hcp:=hcap.O;have hi2:i<=c:=by omega
    have hi3:¬c=i:=by omega
    have hi4:i<=l.length:=by omega
    clear DC hg5 hm' hst';go_wp2_with fail;go_ret
    exact⟨.slice (some g) i c,rfl,by rw[<- dw.O];exact jor.O,hst5.O,rfl⟩
end
section
attribute [local go_sem] aV
theorem Bx.jk4{w:World}{aT b:Nat}{t:TypeId}{rest:List Value}{V:SV}{s:aI}(h:Bx w aT b t rest V s)(j:Nat)(u:Value):
  Bx (w.setCell ⟨b,7+j,none⟩ u) aT b t (rest.set j u) V s/\w.grownBy (w.setCell ⟨b,7+j,none⟩ u) (some b):=by
 obtain⟨h1,h2⟩:=Az h.box (7+j) u;have e:(V.cells++rest).set (7+j) u=V.cells++rest.set j u:=by
  rw[nP _ _ (by simp[SV.cells])]
  simp[SV.cells]
 rw[e]at h1
 exact⟨⟨h1,h.own.keptBy h2 h.box h.ty.h1 h.ty.h2 h.ty.h3 h.ty.h4 h.ty.h5 h.ty.h6,h.ty⟩,h2⟩
theorem jgv:jdV 152:=⟨by decide,by decide,by decide,by decide,by decide,by decide⟩
abbrev Gy(bin dW over:Int)(m:Value):List Value:=[bin,dW,over,m]
theorem jkE(w:World)(n:Int){aT b:Nat}{V:SV}{s:aI}{bin dW over:Int}{m:Value}(hB:Bx w aT b 152 (Gy bin dW over m) V s)(hn:0<=n/\n<=200)(ho: -1000000<=over/\over<=1000000):
  Calls prog 155 #[.pointer (some b),n] w λe w'=>e=.returned ((iw.less over n))/\Bx w' aT b 152 (Gy bin dW (over - iw.less over n) m) V s/\Step (·=b) w w':=by
 have hB':=ah hB;have r1:=hB.box.cell (j:=9) rfl;have f1:=hB.box.frozen 9;have hw:IntKind.i64.wrap (over - n)=over - n:=aP _ (by omega)
 have hw2:IntKind.i64.wrap over=over:=aP _ (by omega)
 have fin:∀q r:Int,q=iw.less over n->r=over - iw.less over n->Ending.returned (q)=.returned ((iw.less over n))/\Bx (w.setCell ⟨b,9,none⟩ (r)) aT b 152 (Gy bin dW (over - iw.less over n) m) V s/\Step (·=b) w (w.setCell ⟨b,9,none⟩ (r)):=by
  rintro q r rfl rfl;obtain⟨h1,h2⟩:=hB'.O.jk4 2 (.int .i64 (over - iw.less over n));exact⟨rfl,h1,.nG h2 λk hk=>by injection hk with hk;exact hk.symm⟩
 clear hB;have fin':=ah fin;clear fin;go_enter func155,ntmps155
 go_wp2_with fail;all_goals
  go_ret
  exact fin'.O _ _ (by unfold iw.less;omega) (by unfold iw.less;omega)
end
section
section
variable {ops:Array Oper} {rest:List Oper} {o:Oper} {a:Act} {w:World} {Q:Exit→Act→World→Prop} {aT b:Nat} {t:TypeId} {cs:List Value} {V:SV} {s:aI}
theorem jbI(hgd:o.guard=none)(x z:Operand)(ho:o.op=.store 3 x z)(hn:o.dst=none){k gm n c:Nat}{q:Int}(hB:Bx w aT b t cs V s)(hk:k<s.aF.length)
  (hv:V.aF=.slice (some gm) n c) (ht:118≠t) (hx:a.eval x=.pointer (some ⟨gm,k*4+3,none⟩)) (hz:a.eval z=q)
  (h:∀w',Bx w' aT b t cs V {s with aF:=s.aF.set k {bZ s.aF k with n:=q}}->Step (·=gm) w w'->wpList prog ops Q rest a w'):wpList prog ops Q (o::rest) a w:=
 jo hgd λK hK=>by
  obtain⟨g',c',cur,e1,_,e3,f0,f1,f2,f3⟩:=hB.own.bZ hk;rw[hv]at e1
  injection e1 with e1
  injection e1 with e1
  injection e1 with e1
  subst e1;have hm:=hB.own.aF;rw[hv]at hm
  obtain⟨h1,h2⟩:=Own.store hm (λ_=>rfl) (i:=k) hk (show 3<4 by omega) (y:={bZ s.aF k with n:=q}) (u:=q) (by rw[pJ hk];rfl)
  rw[<- hv]at h1
  have h4:dX (w.setCell ⟨gm,k*4+3,none⟩ (q)) aT V {s with aF:=s.aF.set k {bZ s.aF k with n:=q}}:=hB.own.JI (by rw[hv];exact h2) h1
  have h3:=h _ ⟨hB.off e3 ht h2,h4,hB.ty⟩ (.nG h2 λk hk=>by injection hk with hk;exact hk.symm)
  have hf:=e3.frozen (k*4+3);clear h hB h1 h2 h4 f0 f1 f2 e3 hm;unfold Oper.wp;simp only[execOp,ho,hx,hz];go_simp
  exact hK _ _ h3
end
theorem Own.cap{α:Type}{enc:α->List Value}{size:Nat}{e:TypeId}{w:World}{aT:Nat}{A:Option Addr}{n c:Nat}{l:List α}(h:Own enc size e w aT (.slice A n c) l):n<=c:=by
 obtain⟨A',c',hv⟩:=h.isSlice;injection hv with _ e2 _
 rcases h.2 with⟨h1,h2⟩|⟨g,cap,cur,h1,_,_,h4,_⟩
 ·injection h1 with _ h1 _
  omega
 ·injection h1 with _ h1 h5
  omega
theorem Vl{l:List Move}{k:Nat}(hk:k<l.length)(y:Move):bZ (l.set k y) k=y:=by
 rw[pJ (by rw[jL];exact hk),pY]
theorem Lr{α:Type}:∀(l:List α) (k:Nat) (y:α),(l.set k y).eraseIdx k=l.eraseIdx k
 |[],_,_=>rfl
 |_::_,0,_=>rfl
 |x::r,k+1,y=>by
  show x::((r.set k y).eraseIdx k)=x::r.eraseIdx k;rw[Lr r k y]
def yQ(s:aI)(b g:Nat)(t:Int):List Value:=(List.range 12).map λq:Nat=>.int .i64 (rF s b g t (q / 3:Nat) (q%3:Nat))
section
variable {p:dG} {s:aI} {b g:Nat} {t:Int}
theorem Y2(hs:pz p s):yQ s b g 0=[.int .i64 0,.int .i64 0,.int .i64 0,.int .i64 0,.int .i64 0,.int .i64 0,.int .i64 0,.int .i64 0,.int .i64 0,.int .i64 0,.int .i64 0,.int .i64 0]:=by
 unfold yQ;rw[show(List.range 12).map (λq:Nat=>Value.int .i64 (rF s b g 0 (q / 3:Nat) (q%3:Nat)))=(List.range 12).map (λ_=>Value.int .i64 0)from lM λq _=>by rw[Z7 hs]]
 rfl
theorem LV(h:∀o k:Int,rF s b g (t+1) o k=rF s b g t o k):yQ s b g (t+1)=yQ s b g t:=by
 unfold yQ;simp only[h]
theorem Pv{o k:Nat}(ho:o<4)(hk:k<3):(yQ s b g t)[o*3+k]?=some (.int .i64 (rF s b g t o k)):=by
 unfold yQ;have h:o*3+k<12:=by omega
 have e1:(o*3+k) / 3=o:=by omega
 have e2:(o*3+k)%3=k:=by omega
 rw[lG,yF h]
 simp only[jr,e1,e2]
theorem Y3{a c:Nat}(hc:c<3)(h:∀o k:Nat,rF s b g (t+1) o k=rF s b g t o k+if o=a/\k=c then 1 else 0):yQ s b g (t+1)=(yQ s b g t).set (a*3+c) (.int .i64 (rF s b g t a c+1)):=by
 unfold yQ;apply qL
 ·simp
 ·intro q h1 h2;have hq:q<12:=by simpa using h1
  rw[AO];simp only[AP,List.getElem_range];rw[h];by_cases he:a*3+c=q
  ·have e1:q / 3=a:=by omega
   have e2:q%3=c:=by omega
   rw[aB he,e1,e2,aB ⟨rfl,rfl⟩]
  ·rw[au he,au (by omega),je]
end
def ctO(p:dG)(s:aI)(b g:Nat)(jy:Int)(q:Nat):aI:=BZ p b (λo k=>rF s b g (over s b g jy) o k) q (xk s b g jy (over s b g jy))
def VQ(p:dG)(s:aI)(b g:Nat)(jy:Int)(q k:Nat):aI:=zD p q b (λk=>rF s b g (over s b g jy) q k) k (ctO p s b g jy q)
section
variable {p:dG} {s:aI} {b g q:Nat} {jy:Int}
theorem jdA(hc:aO p s=0)(f:Bh p s b g jy)(hq:q<=s.ak.length):KI p b (λo' _=>o'<q) (xk s b g jy (over s b g jy)) (ctO p s b g jy q):=by
 have h:=jm hc;have hcut:=jm (MN hc f);exact Fj hcut (λo k ho hk=>by
  rw[uS]at ho
  rw[rX o ho]at hk
  exact Qh h ho hk) _ (by rw[uS];exact hq)
theorem Qj(hc:aO p s=0)(f:Bh p s b g jy)(hq:q<=s.ak.length):lu p (ctO p s b g jy q)/\(ctO p s b g jy q).ak.length=s.ak.length/\∀o,o<s.ak.length->((ctO p s b g jy q).aC o).aH.length=(s.aC o).aH.length:=by
 have h:=jdA hc f hq;exact⟨h.right,by rw[h.ak,uS],λo ho=>by rw[h.aH,rX o ho]⟩
theorem Z9(hc:aO p s=0)(f:Bh p s b g jy)(hq:q<s.ak.length){k:Nat}(hk:k<(s.aC q).aH.length):rF s b g (over s b g jy) q k=0\/May (ctO p s b g jy q) q k (rF s b g (over s b g jy) q k):=
 (jdA hc f (iQ hq)).may (by omega) (Qh (jm hc) hq hk)
theorem jdB(hc:aO p s=0)(f:Bh p s b g jy)(hq:q<s.ak.length){k:Nat}(hk:k<=(s.aC q).aH.length):KI p b (λo' k'=>o'=q/\k'<k) (ctO p s b g jy q) (VQ p s b g jy q k):=by
 obtain⟨h1,_,h3⟩:=Qj hc f (iQ hq);exact Ky (b:=b) (o:=q) h1 (λk hk=>Z9 hc f hq (by rw[<- h3 q hq];exact hk)) k (by rw[h3 q hq];exact hk)
theorem jhy(hc:aO p s=0)(f:Bh p s b g jy)(hq:q<s.ak.length){k:Nat}(hk:k<=(s.aC q).aH.length):lu p (VQ p s b g jy q k)/\(VQ p s b g jy q k).ak.length=s.ak.length/\∀o,o<s.ak.length->((VQ p s b g jy q k).aC o).aH.length=(s.aC o).aH.length:=by
 obtain⟨_,h2,h3⟩:=Qj hc f (iQ hq);have h:=jdB hc f hq hk;exact⟨h.right,by rw[h.ak,h2],λo ho=>by rw[h.aH,h3 o ho]⟩
theorem jmv(hc:aO p s=0)(f:Bh p s b g jy)(hq:q<s.ak.length){k:Nat}(hk:k<(s.aC q).aH.length)(hn:0<rF s b g (over s b g jy) q k):May (VQ p s b g jy q k) q k (rF s b g (over s b g jy) q k):=
 ((jdB hc f hq (iQ hk)).may (by omega) (Z9 hc f hq hk)).resolve_left (by omega)
theorem jkF{k:Nat}(hn:¬ 0<rF s b g (over s b g jy) q k):VQ p s b g jy q (k+1)=VQ p s b g jy q k:=by
 show(qM p (VQ p s b g jy q k) q k (rF s b g (over s b g jy) q k) b).1=_;have:qM p (VQ p s b g jy q k) q k (rF s b g (over s b g jy) q k) b=(VQ p s b g jy q k,rF s b g (over s b g jy) q k):=KQ (by omega)
 rw[this]
theorem jmw(hc:aO p s=0)(f:Bh p s b g jy)(hq:q<s.ak.length):VQ p s b g jy q (s.aC q).aH.length=ctO p s b g jy (q+1):=by
 show _=zD p q b _ ((ctO p s b g jy q).aC q).aH.length (ctO p s b g jy q);rw[(Qj hc f (iQ hq)).2.2 q hq];rfl
theorem jmt:ctO p s b g jy s.ak.length=Jg p s b g jy:=rfl
end
end
end Wh
