/- Texts of the claim, joined. -/
import Derived.Test.YtniaecolikhmeaaGreatDoorChecked
import Derived.Test.YtniaecolikhmeaaGreatDoorQ10
import Derived.Test.YtniaecolikhmeaaGreatDoorQ07
set_option maxHeartbeats 20000000
set_option maxRecDepth 100000
set_option linter.all false
namespace Wh
open Go Go.RowKit Go.ChangeShapes Go.WideShapes Go.Deep Go.Proofs Tryz
section
instance:Inhabited Bin:=⟨⟨false,0,0,0⟩⟩
instance:Inhabited eX:=⟨⟨0,0,0,0⟩⟩
def structFields(P:Program)(t:TypeId):Array Field:=match P.underlying t with
 |some (.struct fs)=>fs
 |_=>#[]
theorem ZW{P:Program}{t:TypeId}(h:(match P.underlying t with|some (.struct _)=>true|_=>false)=true):P.underlying t=some (.struct (structFields P t)):=by
 unfold structFields;split at h
 ·rename_i h';rw[h']
 ·cases h
theorem jfL:prog.underlying 3=some (.int .i64):=by kernel_rfl
theorem jnJ:prog.underlying 4=some .bool:=by kernel_rfl
theorem jnI:prog.underlying 23=some (.slice 3):=by kernel_rfl
theorem jnK:prog.underlying 22=some (.slice 66):=by kernel_rfl
theorem jtf:prog.cellsOf 3=1:=by kernel_rfl
theorem jti:0<prog.bytesOf 3:=rY (by kernel_rfl)
theorem jtj:0<prog.bytesOf 66:=rY (by kernel_rfl)
theorem jfQ:prog.underlying 66=some (.struct (structFields prog 66)):=ZW (by kernel_rfl)
theorem jfZ:oneCellFields prog (structFields prog 66)=true:=by kernel_rfl
theorem jf1:(structFields prog 66).size=4:=by kernel_rfl
theorem jdM:prog.cellsOf 66=4:=by kernel_rfl
theorem jgp:(structFields prog 66).toList.map (·.type)=[4,3,3,3]:=by kernel_rfl
theorem jd7:prog.underlying 25=some (.struct (structFields prog 25)):=ZW (by kernel_rfl)
theorem jiJ:oneCellFields prog (structFields prog 25)=true:=by kernel_rfl
theorem jiM:(structFields prog 25).size=2:=by kernel_rfl
theorem jfA:prog.cellsOf 25=2:=by kernel_rfl
theorem jkp:(structFields prog 25).toList.map (·.type)=[22,23]:=by kernel_rfl
section
variable {H:Type} {en:TypeId×Value→H} {w:World} {aT:Nat} {sp:Nat→Bool} {hd:Bool}
theorem Rd.field{P:Program}{t:TypeId}{fs:Array Field}{cs:List Value}{ts:List TypeId}(hs:P.underlying t=some (.struct fs))(hone:oneCellFields P fs=true)(hC:P.cellsOf t=fs.size)(hf:fs.toList.map (·.type)=ts)
  (h:Rd en P w aT sp hd t cs) (j:Nat) (t':TypeId) (hj:ts[j]?=some t'):∃v,cs[j]?=some v/\Rd en P w aT sp hd t' [v]:=by
 subst hf;rw[lG,Cm]at hj
 obtain⟨f,hf,rfl⟩:=Option.map_eq_some_iff.1 hj;exact(h.fields hs hone hC).2 j f hf
abbrev Rt(en:TypeId×Value->H)(w:World)(aT:Nat)(sp:Nat->Bool)(hd:Bool)(t:TypeId)(cs:List Value):Prop:=Rd en prog w aT sp hd t cs
theorem Rt.ints{cs:List Value}(h:Rt en w aT sp hd 23 cs):∃v l,cs=[v]/\Sl iW w w v l:=
 Rd.sl jnI jtf jti (λ_=>rfl) (by decide) (λcs' _ h=>h.int jfL) h
theorem Rt.bin{cs:List Value}(hl:cs.length=4)(h:Rt en w aT sp hd 66 cs):∃b,cs=Qv b:=by
 match cs,hl with
 |[v0,v1,v2,v3],_=>
  obtain⟨x0,e0,r0⟩:=h.field jfQ jfZ (jdM.trans jf1.symm) jgp 0 _ rfl;obtain⟨x1,e1,r1⟩:=h.field jfQ jfZ (jdM.trans jf1.symm) jgp 1 _ rfl;obtain⟨x2,e2,r2⟩:=h.field jfQ jfZ (jdM.trans jf1.symm) jgp 2 _ rfl;obtain⟨x3,e3,r3⟩:=h.field jfQ jfZ (jdM.trans jf1.symm) jgp 3 _ rfl;obtain rfl:=lF e0;obtain rfl:=lF e1;obtain rfl:=lF e2;obtain rfl:=lF e3;obtain⟨b0,q0⟩:=r0.bool jnJ;obtain⟨b1,q1⟩:=r1.int jfL;obtain⟨b2,q2⟩:=r2.int jfL;obtain⟨b3,q3⟩:=r3.int jfL;obtain rfl:=(tu q0).1;obtain rfl:=(tu q1).1;obtain rfl:=(tu q2).1;obtain rfl:=(tu q3).1;exact⟨⟨b0,b1,b2,b3⟩,rfl⟩
theorem Rt.dP{cs:List Value}(h:Rt en w aT sp hd 22 cs):∃v l,cs=[v]/\Sl Qv w w v l:=
 Rd.sl jnK jdM jtj (λ_=>rfl) (by decide) (λ_ hl h=>Rt.bin hl h) h
theorem Rt.plan{cs:List Value}(hl:cs.length=2)(h:Rt en w aT sp hd 25 cs):∃v0 v1 p,cs=[v0,v1]/\kK w w (.agg #[v0,v1]) p:=by
 match cs,hl with
 |[v0,v1],_=>
  obtain⟨x0,e0,r0⟩:=h.field jd7 jiJ (jfA.trans jiM.symm) jkp 0 _ rfl;obtain⟨x1,e1,r1⟩:=h.field jd7 jiJ (jfA.trans jiM.symm) jkp 1 _ rfl;obtain rfl:=lF e0;obtain rfl:=lF e1;obtain⟨_,l0,q0,hs0⟩:=Rt.dP r0;obtain⟨_,l1,q1,hs1⟩:=Rt.ints r1;obtain rfl:=(tu q0).1;obtain rfl:=(tu q1).1;exact⟨_,_,⟨l0,l1⟩,rfl,_,_,rfl,hs0,hs1⟩
theorem rd_of{P:Program}{ts:List TypeId}{ds:List (DataW H)}{j:Nat}{t:TypeId}{v:Value}{d:DataW H}{ps:List MemPlace}(hsz:(DataW.weightsEach P ts ds).all (·<=reachBytes)=true)(ht:ts[j]?=some t)(hds:ds[j]?=some d)
  (h:DataW.Trod en P w aT sp hd t v d ps):Rd en P w aT sp hd t v.cells.toList:=by
 obtain⟨n,hn⟩:=h;exact⟨n,_,hn,λk hk=>by simpa using bJ.1 hsz _ (BA ht hds k hk)⟩
theorem plan_of{b0:Nat}{r:Reach}{v:Value}(hv:Value.okWide prog w r b0 25 v)(h:Rt en w aT sp hd 25 v.cells.toList):∃p,kK w w v p:=by
 obtain⟨cs,rfl,hsz⟩:=okWide_struct jd7 hv;obtain⟨l⟩:=cs;obtain⟨v0,v1,p,e,hp⟩:=Rt.plan (by simpa[Value.cells]using hsz.trans jfA) h
 have e':l=[v0,v1]:=by simpa[Value.cells]using e
 subst e';exact⟨p,hp⟩
end
end
section
instance:Inhabited Line:=⟨IU⟩
instance:Inhabited Move:=⟨Kv⟩
instance:Inhabited Order:=⟨Ig⟩
section
variable {H:Type} {en:TypeId×Value→H} {w:World} {aT:Nat} {sp:Nat→Bool} {hd:Bool}
end
end
end Wh
