/- Texts of the claim, joined. -/
import Derived.Lib.AppendIntMem
import Derived.Test.YtniaecolikhmeaaGreatDoorQ37
import Derived.Test.YtniaecolikhmeaaGreatDoorQ25
set_option maxHeartbeats 20000000
set_option maxRecDepth 100000
set_option linter.all false
namespace Wh
open Go Go.RowKit Go.Shelf Go.Proofs Tryz
section
attribute [local go_sem] aV jF iY jI
structure F8(w:World):Prop where
 tab : Lib.TabIs prog w "internal/strconv.uint64pow10" .u64 Lib.pow10Tab
 max:∃m,w.cell? ⟨0,0,none⟩=some (.int .i64 m)
 syn:∃a b,w.cell? ⟨2,0,none⟩=some (.iface a b)
 rng:∃a b,w.cell? ⟨3,0,none⟩=some (.iface a b)
theorem F8.size{w:World}(h:F8 w):4<=w.heap.size:=by
 obtain⟨a,b,h3⟩:=h.rng;rcases rH 3 w.heap.size with h'|h'
 ·exact h'
 ·simp[World.cell?,iF h']at h3
theorem F8.same{w w':World}(h:F8 w)(hb:∀k,k<4->w'.heap[k]?=w.heap[k]?):F8 w':=by
 obtain⟨a,b,c,d⟩:=h;refine⟨?_,?_,?_,?_⟩
 ·have hgn : prog.globalNamed "internal/strconv.uint64pow10" = some 1 := by kernel_rfl
  unfold Lib.TabIs World.var? at a ⊢
  rw[hgn]at a ⊢
  simp only[tq]at a ⊢
  rw[hb 1 (by decide)]
  exact a
 ·rw[yc (w:=w) (hb 0 (by decide))];exact b
 ·rw[yc (w:=w) (hb 2 (by decide))];exact c
 ·rw[yc (w:=w) (hb 3 (by decide))];exact d
theorem F8.below{w w':World}{B:Nat}(h:F8 w)(hb:Below B w w')(hB:4<=B):F8 w':=h.same λk hk=>hb.block k (by omega)
theorem F8.up{w w':World}(h:F8 w)(hb:Below w w w'):F8 w':=h.below hb h.size
def Sm(e:Int):List PanicEntry:=[{v:=.iface 74 (.agg #[e]),recovered:=false}]
theorem Tq(w:World)(e:Int):Calls prog 39 #[.bool true,e] w λen w'=>en=.returned (.tuple #[])/\w=w':=by
 go_enter func39,ntmps39
 go_wp2_with fail;go_end0
 exact⟨rfl,rfl⟩
theorem Gx(w:World)(e:Int):Calls prog 39 #[.bool false,e] w λen w'=>en=.panicked (Sm e)/\w=w':=by
 go_enter func39,ntmps39
 go_wp2_with fail;exact⟨rfl,rfl,rfl⟩
theorem Ii(t:List Nat):(eY t).data.toList=bytes t:=by simp[eY,bytes]
theorem jhD(t:List Nat):(⟨(bytes t).toArray⟩:ByteArray)=eY t:=rfl
theorem jgc{v:Int}(h:0<=v):Lib.itoa v=bytes (digits v.toNat):=by
 unfold Lib.itoa;rw[au (by omega),decDigits_eq]
theorem jiW(w:World)(hL:F8 w)(v:Int)(h0:0<=v)(h1:v<=9223372036854775807):Calls prog 34 #[v] w λe w'=>e=.returned (.string (eY (digits v.toNat)))/\Below w w w':=by
 refine(Wh.strconv_Itoa v (by omega) h1 w hL.tab).mono ?_
 rintro e w' ⟨rfl,k,os,rfl⟩;rw[jgc h0,jhD];exact⟨rfl,Lib.below_grow _ w (ay _) k os⟩
theorem jmC{l:List UInt8}{v:Int}(h:Lib.atoiAll l=.ok v):v<=9223372036854775807:=by
 cases l with
 |nil=>cases h
 |cons c r=>
  unfold Lib.atoiAll at h
  simp only at h
  split at h
  ·cases h
  ·cases h
  ·split at h
   ·cases h
   ·split at h
    ·cases h
    ·injection h with h
     split at h<;>omega
def jmG(n:Int)(w:World)(e:Ending)(w':World):Prop:=Below w w w'/\((0<=n/\e=.returned (n))\/(n<0/\e=.panicked (Sm 1)))
theorem jtb(w:World)(t:List Nat)(hL:F8 w)(hb:∀n∈t,n<256)(hl:t.length<=4096):Calls prog 36 #[.string (eY t)] w (jmG (J3 t) w):=by
 have hsz:=pK t;obtain⟨sa,sb,jt7⟩:=hL.syn;obtain⟨ra,rb,juh⟩:=hL.rng;have hL':=ah hL;have hbb:=Ii t;clear hL;cases hat:Lib.atoiAll (bytes t)
 ·rename_i v
  have h1:=jmC hat;have bad:∀(h:¬(0<=v/\t.length<=6/\digits v.toNat=t)),J3 t= -1:=λh=>jaM λv' hv'=>by
   rw[hat]at hv'
   injection hv' with hv'
   subst hv';rintro⟨a,b,c⟩;rw[jgc a]at c
   exact h ⟨a,b,bytes_inj (λx hx=>by have:=Em _ x hx;omega) hb c⟩
  have hC:=λW=>Wh.strconv_Atoi_ok (eY t) (by omega) v (by rw[hbb];exact hat) W
  have hB:∀W1,(W1=w\/∃t,W1=Lib.bytesWorld w 5 t)->Below w w W1:=λW1 hW1=>by
   rcases hW1 with rfl|⟨t,rfl⟩
   ·exact aj _ _
   ·exact Lib.bytesWorld_below _ _ _
  have hC':=ah hC;have hB':=ah hB;have bad':=ah bad;clear hC hB bad hbb hat;by_cases h0:0<=v
  ·by_cases h6:t.length<=6
   ·go_enter func36,ntmps36
    go_wp2_with (go_at_call 58;refine(hC'.O _).mono ?_;rintro e W1 ⟨rfl,hW1⟩)
    have hb1:=hB'.O _ hW1;clear hW1;refine(jiW _ (hL'.O.up hb1) v h0 h1).mono ?_
    rintro e W2 ⟨rfl,hb2⟩;have hb1:=fD hb1 hb2;by_cases hq:digits v.toNat=t
    ·have hn:J3 t=v:=by
      have:=(WV (s:=t) (v:=v.toNat)).2 ⟨hq.symm,h6⟩;omega
     have hqq:((eY (digits v.toNat)).toList==(eY t).toList)=true:=by rw[hq];simp
     clear hq;go_wp2_with (go_at_call 39;refine(Tq _ _).mono ?_;rintro e w' ⟨rfl,rfl⟩)
     exact bV (v:=v) (by simp[results,results36,go_sem]) rfl ⟨hb1,.inl ⟨by omega,by rw[hn]⟩⟩
    ·have hbad:=bad'.O (λh=>hq h.2.2)
     have hqq:=jgt (λx hx=>by have:=Em _ x hx;omega) hb hq
     clear hq;go_wp2_with (go_at_call 39;refine(Gx _ _).mono ?_;rintro e w' ⟨rfl,rfl⟩)
     exact⟨rfl,hb1,.inr ⟨by decide,rfl⟩⟩
   ·have hbad:=bad'.O (λh=>h6 h.2.1)
    go_enter func36,ntmps36
    go_wp2_with (go_at_call 58;refine(hC'.O _).mono ?_;rintro e W1 ⟨rfl,hW1⟩)
    have hb1:=hB'.O _ hW1;go_wp2_with (go_at_call 39;refine(Gx _ _).mono ?_;rintro e w' ⟨rfl,rfl⟩)
    exact⟨rfl,hb1,.inr ⟨by decide,rfl⟩⟩
  ·have hbad:=bad'.O (λh=>h0 h.1)
   go_enter func36,ntmps36
   go_wp2_with (go_at_call 58;refine(hC'.O _).mono ?_;rintro e W1 ⟨rfl,hW1⟩)
   have hb1:=hB'.O _ hW1;go_wp2_with (go_at_call 39;refine(Gx _ _).mono ?_;rintro e w' ⟨rfl,rfl⟩)
   exact⟨rfl,hb1,.inr ⟨by decide,rfl⟩⟩
 ·have hbad:=jaM (s:=t) λv hv=>by rw[hat]at hv;cases hv
  go_enter func36,ntmps36
  go_wp2_with (go_at_call 58;refine(Wh.strconv_Atoi_syntax (eY t) (by omega) (λ_ h=>by rw[hbb,hat]at h;cases h) (λh=>by rw[hbb,hat]at h;cases h) _ _ jt7 (.inr ⟨_,_,rfl⟩)).mono ?_;rintro e W1 ⟨N,rfl,_,_,hb1⟩)
  go_wp2_with (go_at_call 39;refine(Gx _ _).mono ?_;rintro e w' ⟨rfl,rfl⟩)
  exact⟨rfl,hb1,.inr ⟨by decide,rfl⟩⟩
 ·have hbad:=jaM (s:=t) λv hv=>by rw[hat]at hv;cases hv
  go_enter func36,ntmps36
  go_wp2_with (go_at_call 58;refine(Wh.strconv_Atoi_range (eY t) (by omega) (by rw[hbb];exact hat) _ _ juh (.inr ⟨_,_,rfl⟩)).mono ?_;rintro e W1 ⟨N,rfl,_,_,hb1⟩)
  go_wp2_with (go_at_call 39;refine(Gx _ _).mono ?_;rintro e w' ⟨rfl,rfl⟩)
  exact⟨rfl,hb1,.inr ⟨by decide,rfl⟩⟩
end
section
attribute [local go_sem] aV jF iY jI
theorem SI(w:World){ob:Nat}{r0:Value}(hr:iJ w ob 9 [r0])(hL:F8 w)(n:Nat)(hn:n<=1000)(older:List PanicEntry):
  CallsD prog 33 #[.pointer (some ob)] (.panicking ({v:=.iface 74 (.agg #[n]),recovered:=false}::older)) w λe u' w'=>
   e=.returned (.tuple #[])/\u'=.panicking ({v:=.iface 74 (.agg #[n]),recovered:=true}::older)/\iJ w' ob 9 [.string (eY (refused n))]/\Step (·=ob) w w':=by
 refine callsD_of_wpS func33 rfl λc₀ cs hu=>?_
 apply wpS_seq;apply wpS_region;simp[wpOpsS,go_sem,recoverD,hu,ntmps33,Exit.thenS,gW]
 refine wpS_of_wp ?_
 have hta:∀w:World,(Instr.typeAssert (.iface 74 (.agg #[(n:Int)])) 20 74 true).run prog w=.ok (.tuple #[.agg #[(n:Int)],.bool true]) w:=λw=>by kernel_rfl
 have hsz:=pK (digits n);have hdl:=En 18 n (by omega)
 have hap:(⟨#[101,114,114,111,114,32]⟩:ByteArray)++eY (digits n)=eY (refused n):=GL [101,114,114,111,114,32] (digits n);have hal:Below w w (w.alloc (.cells #[(n:Int)] 74)):=(aj _ _).alloc (ay _) _;go_wp2_with fail;refine(jiW _ (hL.up hal) n (by omega) (by omega)).mono ?_
 rintro e W1 ⟨rfl,hb1⟩;have h01:=fD hal hb1;have hr1:=hr.below h01 hr.lt;have c0:=hr1.cell (j:=0) rfl;have f0:=hr1.frozen 0;rw[dn];go_wp2_with fail;obtain⟨hr2,hg2⟩:=Az hr1 0 (.string (eY (refused n)));exact⟨rfl,_,rfl,_,uU rfl _ _ _,rfl,rfl,hr2,(Step.of_below h01).trans (Step.nG hg2 (λq hq=>by injection hq with hq;exact hq.symm))⟩
theorem jiQ(w:World)(ob:Nat):CallsD prog 33 #[.pointer (some ob)] .returning w λe u' w'=>e=.returned (.tuple #[])/\u'=.returning/\Below w w w':=by
 refine callsD_of_wpS func33 rfl λc₀ cs hu=>?_
 apply wpS_seq;apply wpS_region;simp[wpOpsS,go_sem,recoverD,hu,ntmps33,Exit.thenS,gW]
 refine wpS_of_wp ?_
 have hta:∀w:World,(Instr.typeAssert .nilIface 20 74 true).run prog w=.ok (.tuple #[.agg #[zI],.bool false]) w:=λw=>by kernel_rfl
 go_wp2_with fail;have hal:Below w w (w.alloc (.cells #[zI] 74)):=(aj _ _).alloc (ay _) _;exact⟨rfl,_,rfl,_,uU rfl _ _ _,rfl,hu,hal⟩
end
end Wh
