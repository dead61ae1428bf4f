/- Texts of the claim, joined. -/
import Derived.Shelf.Strings.OnBuilder
import Derived.Shelf.Small.Strs
import Derived.Shelf.Strings.BuilderK
import Derived.Shelf.Strconv.Itoa3
import Derived.Shelf.Strconv.AtoiAll
import Derived.Shelf.Strings.Shaped
import Derived.Shelf.Strings.Prefix
import Derived.Shelf.Strings.SplitShaped
import Derived.Shelf.Unicode.DecodeSlow
import Derived.Shelf.SortM.Plain
import Derived.Shelf.SortM.SortNone
import Derived.Test.YtniaecolikhmeaaGreatDoorQ01
set_option maxHeartbeats 20000000
set_option maxRecDepth 100000
set_option linter.all false
namespace Go.Proofs
open Go.Shelf
def Wh.Xh:Go.Shelf.Ren:=⟨fun|156=>41|165=>70|166=>12|169=>15|240=>32|241=>113|276=>55|277=>163|137=>31|217=>54|266=>85|171=>34|243=>56|246=>86|283=>127|284=>128|285=>129|286=>130|129=>172|317=>171|318=>173|319=>174|320=>175|337=>208|338=>209|172=>58|244=>88|245=>89|247=>132|279=>133|280=>134|281=>135|282=>136|287=>177|316=>178|205=>179|321=>210|322=>211|138=>8|195=>25|218=>26|143=>27|219=>53|225=>82|224=>83|267=>84|314=>126|100=>9|207=>28|102=>14|209=>42|146=>35|221=>57|268=>87|197=>131|260=>176|n=>n,fun|31=>77|72=>48|76=>54|70=>45|37=>46|75=>53|127=>88|164=>97|80=>58|171=>165|53=>166|173=>169|212=>210|51=>162|213=>211|46=>124|232=>261|233=>262|167=>173|85=>174|168=>176|175=>213|210=>216|145=>246|143=>244|146=>163|105=>171|119=>239|139=>242|138=>241|n=>n,fun|17=>1|18=>6|19=>7|15=>2|16=>3|1=>0|3=>4|4=>5|n=>n⟩
theorem Wh.lays156:Go.Proofs.Lays.n156 Tryz.prog Wh.Xh:=by repeat' first|kernel_rfl|(intro _;kernel_rfl)|decide|constructor
theorem Wh.Builder_Extra_156:Builder.Extra Tryz.prog Wh.Xh:=by repeat' first|kernel_rfl|(intro _;kernel_rfl)|decide|constructor
open Go.RowKit in
theorem Wh.strings_Join(bk o c:Nat)(xs:List ByteArray)(sep:ByteArray)(w:World)(hcells:∀(j:Nat) x,xs[j]?=some x->w.cell? ⟨bk,o+j,none⟩=some (.string x))(hbk:bk<w.heap.size)(hN:xs.length<=140737488355328)(hcap:xs.length<=c)(lZ:(Lib.join (xs.map (·.data.toList)) sep.data.toList).length<=140737488355328):
  Calls Tryz.prog 41 #[.slice (some ⟨bk,o,none⟩) xs.length c,.string sep] w λe w'=>e=.returned (.string ⟨(Lib.join (xs.map (·.data.toList)) sep.data.toList).toArray⟩)/\Below w w w':=Any.strings_Join Wh.lays156 Wh.Builder_Extra_156 bk o c xs sep w hcells hbk hN hcap lZ
open Go.RowKit in
theorem Wh.strings_Join_none(a:Option Addr)(c:Nat)(sep:ByteArray)(w:World):
  Calls Tryz.prog 41 #[.slice a 0 c,.string sep] w λe w'=>e=.returned (.string ⟨#[]⟩)/\w'=w:=Any.strings_Join_none Wh.lays156 Wh.Builder_Extra_156 a c sep w
theorem Wh.lays137:Go.Proofs.Lays.n137 Tryz.prog Wh.Xh:=by repeat' first|kernel_rfl|(intro _;kernel_rfl)|decide|constructor
open Go.RowKit in
theorem Wh.strings_IndexByte(s:ByteArray)(c:Int)(w:World):
  Calls Tryz.prog 31 #[.string s,.int .u8 c] w λe w'=>e=.returned ((Lib.indexByte s.data.toList c.toNat.toUInt8))/\w'=w:=Any.strings_IndexByte Wh.lays137 s c w
theorem Wh.laysM171:Go.Proofs.LaysM.n171 Tryz.prog Wh.Xh:=by repeat' first|kernel_rfl|(intro _;kernel_rfl)|decide|constructor
open Go.RowKit Go.Sort Go.Lib in
theorem Wh.strconv_Itoa (n : Int) (h0 : -9223372036854775808 ≤ n) (h1 : n ≤ 9223372036854775807) (w : World) (htab : Lib.TabIs Tryz.prog w "internal/strconv.uint64pow10" .u64 Lib.pow10Tab) :
  Calls Tryz.prog 34 #[n] w λe w'=>e=.returned (.string ⟨(Lib.itoa n).toArray⟩)/\∃k os,w'=grow (w.drewN k) os:=Any.strconv_Itoa Wh.laysM171 n h0 h1 w htab
theorem Wh.laysC172:Go.Proofs.LaysC.n172 Tryz.prog Wh.Xh:=by repeat' first|kernel_rfl|(intro _;kernel_rfl)|decide|constructor
open Go.RowKit in
theorem Wh.strconv_Atoi_ok(s:ByteArray)(hmax:s.size<=9223372036854775806)(v:Int)(h:Lib.atoiAll s.data.toList=.ok v)(w:World):
  Calls Tryz.prog 58 #[.string s] w λe w'=>e=.returned (.tuple #[v,.nilIface])/\(w'=w\/∃t,w'=Lib.bytesWorld w 5 t):=Any.strconv_Atoi_ok Wh.laysC172 s hmax v h w
open Go.RowKit in
theorem Wh.strconv_Atoi_syntax(s:ByteArray)(hlim:s.size<=281474976710656)(h:∀v,Lib.atoiAll s.data.toList≠.ok v)(h':Lib.atoiAll s.data.toList≠.range)(ev:Value)(w:World)(hv:w.cell? ⟨2,0,none⟩=some ev)(hev:ev=.nilIface\/∃te pe,ev=.iface te pe):
  Calls Tryz.prog 58 #[.string s] w λe w'=>∃N,e=.returned (.tuple #[.int .i64 (0),.iface 176 (.pointer (some ⟨N,0,none⟩))])/\w.heap.size<=N/\w'.heap[N]?=some (.cells #[.string ⟨#[65,116,111,105]⟩,.string s,ev] 216 (0,0))/\Below w w w':=Any.strconv_Atoi_syntax Wh.laysC172 s hlim (by cases hx:Lib.atoiAll s.data.toList<;>first|rfl|exact absurd hx (h _)|exact absurd hx h') ev w hv hev
open Go.RowKit in
theorem Wh.strconv_Atoi_range(s:ByteArray)(hlim:s.size<=281474976710656)(h:Lib.atoiAll s.data.toList=.range)(ev:Value)(w:World)(hv:w.cell? ⟨3,0,none⟩=some ev)(hev:ev=.nilIface\/∃te pe,ev=.iface te pe):
  Calls Tryz.prog 58 #[.string s] w λe w'=>∃N,e=.returned (.tuple #[(Lib.atoiSat s.data.toList),.iface 176 (.pointer (some ⟨N,0,none⟩))])/\w.heap.size<=N/\w'.heap[N]?=some (.cells #[.string ⟨#[65,116,111,105]⟩,.string s,ev] 216 (0,0))/\Below w w w':=Any.strconv_Atoi_range Wh.laysC172 s hlim h ev w hv hev
theorem Wh.lays138:Go.Proofs.Lays.n138 Tryz.prog Wh.Xh:=by repeat' first|kernel_rfl|(intro _;kernel_rfl)|decide|constructor
open Go.RowKit Go.Lib in
theorem Wh.strings_Count_one(s:ByteArray)(c:UInt8)(w:World):
  Calls Tryz.prog 8 #[.string s,.string ⟨#[c]⟩] w λe w'=>e=.returned ((Lib.countByte s.data.toList c))/\w'=w:=Any.strings_Count_one Wh.lays138 s c w
theorem Wh.lays100:Go.Proofs.Lays.n100 Tryz.prog Wh.Xh:=by repeat' first|kernel_rfl|(intro _;kernel_rfl)|decide|constructor
open Go.RowKit Go.Lib in
theorem Wh.strings_HasSuffix(s p:ByteArray)(w:World)(hs:s.size<=9223372036854775807):
  Calls Tryz.prog 9 #[.string s,.string p] w λe w'=>e=.returned (.bool (Lib.hasSuffix s.data.toList p.data.toList))/\w'=w:=Any.strings_HasSuffix Wh.lays100 s p w hs
theorem Wh.lays102:Go.Proofs.Lays.n102 Tryz.prog Wh.Xh:=by repeat' first|kernel_rfl|(intro _;kernel_rfl)|decide|constructor
open Go.RowKit Go.Lib in
theorem Wh.strings_TrimSuffix(s p:ByteArray)(w:World)(hs:s.size<=9223372036854775807):
  Calls Tryz.prog 14 #[.string s,.string p] w λe w'=>e=.returned (.string ⟨(Lib.trimSuffix s.data.toList p.data.toList).toArray⟩)/\w'=w:=Any.strings_TrimSuffix Wh.lays102 s p w hs
theorem Wh.lays146:Go.Proofs.Lays.n146 Tryz.prog Wh.Xh:=by repeat' first|kernel_rfl|(intro _;kernel_rfl)|decide|constructor
open Go.RowKit Go.Lib in
theorem Wh.strings_Split(s sep:ByteArray)(m:Int)(w:World)(hs:s.size<4294967281)(hm:w.cell? ⟨0,0,none⟩=some (.int .i64 m))(h1:1<=sep.size):
  Calls Tryz.prog 35 #[.string s,.string sep] w λe w'=>
   e=.returned (.slice (some w) (Lib.countB s sep+1) (Lib.countB s sep+1))/\w'=w.alloc (.cells ((Lib.splitB sep 0 (Lib.countB s sep) s).map Value.string).toArray 9):=Any.strings_Split Wh.lays146 (by kernel_rfl) s sep m w hs hm h1
open Go.RowKit in
theorem Wh.Builder_WriteString_k(B b:Nat)(bs:List Value)(s:ByteArray)(w:World)(h:Lib.IsBuilderF 48 5 B b bs w)(lZ:bs.length+s.size<=140737488355328)(hBw:B<=w.heap.size):
  Calls Tryz.prog 12 #[.pointer (some b),.string s] w λe w'=>e=.returned (.tuple #[s.size,.nilIface])/\(Lib.BuilderAtF 48 5 B b (.pointer (some b)) (bs++Lib.strCells s) w'/\Below B w w'/\Lib.OthersKept 5 (some b) w w'):=Any.Builder_WriteString_k (ρ:=Wh.Xh) {Wh.lays156 with} Wh.Builder_Extra_156 B b bs s w h lZ hBw
open Go.RowKit in
theorem Wh.Builder_String_any_k(B b:Nat)(l:List UInt8)(w:World)(h:Lib.IsBuilderF 48 5 B b (Lib.byteCells l) w)(hBw:B<=w.heap.size):
  Calls Tryz.prog 15 #[.pointer (some b)] w λe w'=>e=.returned (.string ⟨l.toArray⟩)/\(Lib.IsBuilderF 48 5 B b (Lib.byteCells l) w'/\Below B w w'/\Lib.OthersKept 5 (some b) w w'):=Any.Builder_String_any_k (ρ:=Wh.Xh) {Wh.lays156 with} Wh.Builder_Extra_156 B b l w h hBw
end Go.Proofs
