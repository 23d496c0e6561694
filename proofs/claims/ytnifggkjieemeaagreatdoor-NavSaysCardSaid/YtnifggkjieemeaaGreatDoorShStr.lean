/- Lemmas of this claim: ShStr. -/
import Derived.Test.YtnifggkjieemeaaGreatDoorOm
import Derived.Shelf.Strings.Builder1
import Derived.Shelf.Small.Wraps
import Derived.Shelf.Strconv.Itoa3
import Derived.Shelf.Strconv.ErrVarAll
import Derived.Shelf.Strings.Cut
import Derived.Test.YtnifggkjieemeaaGreatDoorProg
set_option linter.unusedVariables false
set_option linter.unusedSimpArgs false
namespace Go.Proofs
open Go.Shelf
def Tryz.lays169_ren:Go.Shelf.Ren:=⟨λ|169=>105|n=>n,λ|70=>185|9=>9|0=>0|72=>188|37=>186|127=>254|3=>3|5=>5|n=>n,λ|n=>n⟩
theorem Tryz.lays169:Go.Proofs.Lays.n169 Tryz.prog Tryz.lays169_ren:=by repeat' first|(intros;kernel_rfl)|decide|constructor
theorem Tryz.Builder_Extra_169:Builder.Extra Tryz.prog Tryz.lays169_ren:=by repeat' first|(intros;kernel_rfl)|decide|constructor
open Go.RowKit in
theorem Tryz.Builder_String_any(B b:Nat)(l:List UInt8)(w:World)(h:Lib.IsBuilder 188 5 B b (Lib.byteCells l) w)(g:B<=w.heap.size):Calls Tryz.prog 105 #[.pointer (some ⟨b,0,none⟩)] w λe k=>e=.returned (.string ⟨l.toArray⟩)/\Below B w k:=Any.Builder_String_any Tryz.lays169 Tryz.Builder_Extra_169 B b l w h g
def Tryz.lays103_ren:Go.Shelf.Ren:=⟨λ|103=>113|210=>163|206=>210|n=>n,λ|9=>9|4=>4|24=>203|3=>3|n=>n,λ|n=>n⟩
theorem Tryz.lays103:Go.Proofs.Lays.n103 Tryz.prog Tryz.lays103_ren:=by repeat' first|(intros;kernel_rfl)|decide|constructor
open Go.RowKit in
theorem Tryz.strings_CutPrefix(s p:ByteArray)(w:World):Calls Tryz.prog 113 #[.string s,.string p] w λe g=>e=.returned (.tuple #[.string ⟨(Lib.trimPrefix s.data.toList p.data.toList).toArray⟩,.bool (Lib.hasPrefix s.data.toList p.data.toList)])/\g=w:=Any.strings_CutPrefix Tryz.lays103 s p w
def Tryz.laysM171_ren:Go.Shelf.Ren:=⟨λ|171=>103|243=>155|246=>197|283=>230|284=>231|285=>232|286=>233|129=>208|317=>253|318=>254|319=>255|320=>256|337=>265|338=>266|n=>n,λ|3=>3|9=>9|2=>2|4=>4|171=>309|0=>0|53=>143|37=>186|5=>5|173=>311|212=>329|51=>295|20=>20|213=>330|46=>257|232=>346|233=>347|n=>n,λ|17=>3|18=>6|19=>7|n=>n⟩
theorem Tryz.laysM171:Go.Proofs.LaysM.n171 Tryz.prog Tryz.laysM171_ren:=by repeat' first|(intros;kernel_rfl)|decide|constructor
open Go.RowKit Go.Sort Go.Lib in
theorem Tryz.strconv_Itoa(n:Int)(m: -9223372036854775808<=n)(u:n<=9223372036854775807)(w:World)(g:Lib.TabIs Tryz.prog w "internal/strconv.uint64pow10" .u64 Lib.pow10Tab):Calls Tryz.prog 103 #[.int .i64 n] w λe B=>e=.returned (.string ⟨(Lib.itoa n).toArray⟩)/\∃k z,B=grow (w.drewN k) z:=Any.strconv_Itoa Tryz.laysM171 n m u w g
def Tryz.lays171_ren:Go.Shelf.Ren:=⟨λ|171=>103|243=>155|246=>197|283=>230|284=>231|285=>232|286=>233|129=>208|317=>253|318=>254|319=>255|320=>256|337=>265|338=>266|n=>n,λ|3=>3|9=>9|2=>2|4=>4|171=>309|0=>0|53=>143|37=>186|5=>5|173=>311|212=>329|51=>295|20=>20|213=>330|46=>257|232=>346|233=>347|n=>n,λ|17=>3|18=>6|19=>7|n=>n⟩
theorem Tryz.lays171:Go.Proofs.Lays.n171 Tryz.prog Tryz.lays171_ren:=by repeat' first|(intros;kernel_rfl)|decide|constructor
open Go.RowKit Go.Sort Go.Lib in
theorem Tryz.strconv_Itoa_small(i:Nat)(g:i<100)(w:World):Calls Tryz.prog 103 #[.int .i64 i] w λe k=>e=.returned (.string ⟨(Lib.decDigits i).toArray⟩)/\k=w:=Any.strconv_Itoa_small Tryz.lays171 i g w
def Tryz.laysC172_ren:Go.Shelf.Ren:=⟨λ|172=>124|244=>177|245=>178|247=>219|279=>220|280=>221|281=>222|282=>223|287=>249|316=>250|171=>103|205=>251|321=>262|322=>263|243=>155|246=>197|283=>230|284=>231|285=>232|286=>233|129=>208|317=>253|318=>254|319=>255|320=>256|337=>265|338=>266|n=>n,λ|9=>9|3=>3|75=>27|76=>46|4=>4|5=>5|167=>300|37=>186|0=>0|85=>301|2=>2|168=>303|53=>143|175=>323|46=>257|210=>326|127=>254|145=>339|143=>337|21=>21|171=>309|173=>311|212=>329|51=>295|20=>20|213=>330|232=>346|233=>347|80=>62|n=>n,λ|15=>1|16=>2|17=>3|18=>6|19=>7|n=>n⟩
theorem Tryz.laysC172:Go.Proofs.LaysC.n172 Tryz.prog Tryz.laysC172_ren:=by repeat' first|(intros;kernel_rfl)|decide|constructor
open Go.RowKit in
theorem Tryz.strconv_Atoi_ok(s:ByteArray)(g:s.size<=9223372036854775806)(v:Int)(h:Lib.atoiAll s.data.toList=.ok v)(w:World):Calls Tryz.prog 124 #[.string s] w λe k=>e=.returned (.tuple #[.int .i64 v,.nilIface])/\(k=w\/∃t,k=Lib.bytesWorld w 5 t):=Any.strconv_Atoi_ok Tryz.laysC172 s g v h w
open Go.RowKit in
theorem Tryz.strconv_Atoi_syntax_var(s:ByteArray)(g:s.size<=281474976710656)(h:Lib.atoiAll s.data.toList=Lib.atoiAll [])(tp:TypeId)(p:Value)(w:World)(k:w.var? Tryz.prog "strconv.ErrSyntax"=some #[.iface tp p]):Calls Tryz.prog 124 #[.string s] w λe m=>∃N,e=.returned (.tuple #[.int .i64 0,.iface 303 (.pointer (some ⟨N,0,none⟩))])/\w.heap.size<=N/\m.heap[N]? =some (.cells #[.string ⟨#[65,116,111,105]⟩,.string s,.iface tp p] 326 (0,0))/\Below w.heap.size w m:=Any.strconv_Atoi_syntax_var Tryz.laysC172 s g h tp p w k
open Go.RowKit in
theorem Tryz.strconv_Atoi_range_var(s:ByteArray)(g:s.size<=281474976710656)(h:Lib.atoiAll s.data.toList=.range)(tp:TypeId)(p:Value)(w:World)(k:w.var? Tryz.prog "strconv.ErrRange"=some #[.iface tp p]):Calls Tryz.prog 124 #[.string s] w λe m=>∃N,e=.returned (.tuple #[.int .i64 (Lib.atoiSat s.data.toList),.iface 303 (.pointer (some ⟨N,0,none⟩))])/\w.heap.size<=N/\m.heap[N]? =some (.cells #[.string ⟨#[65,116,111,105]⟩,.string s,.iface tp p] 326 (0,0))/\Below w.heap.size w m:=Any.strconv_Atoi_range_var Tryz.laysC172 s g h tp p w k
def Tryz.lays145_ren:Go.Shelf.Ren:=⟨λ|145=>123|220=>176|219=>218|217=>245|225=>246|224=>247|267=>248|266=>260|314=>261|n=>n,λ|9=>9|4=>4|59=>150|3=>3|5=>5|46=>257|146=>333|51=>295|n=>n,λ|1=>0|n=>n⟩
theorem Tryz.lays145:Go.Proofs.Lays.n145 Tryz.prog Tryz.lays145_ren:=by repeat' first|(intros;kernel_rfl)|decide|constructor
open Go.RowKit Go.Lib in
theorem Tryz.strings_Cut(s g:ByteArray)(m:Int)(w:World)(u:s.size<4294967281)(k:w.cell? ⟨0,0,none⟩=some (.int .i64 m)):Calls Tryz.prog 123 #[.string s,.string g] w λe z=>e=.returned (.tuple #[.string ⟨(Lib.cut s.data.toList g.data.toList).1.toArray⟩,.string ⟨(Lib.cut s.data.toList g.data.toList).2.1.toArray⟩,.bool (Lib.cut s.data.toList g.data.toList).2.2])/\∃n,z=w.drewN n:=Any.strings_Cut Tryz.lays145 s g m w u k
