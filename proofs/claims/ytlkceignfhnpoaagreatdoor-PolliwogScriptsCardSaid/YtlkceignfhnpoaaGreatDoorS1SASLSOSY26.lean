/-
  Part of a proof, written small.
-/
import Derived.Test.YtlkceignfhnpoaaGreatDoorS1SASLSOSY0
import Derived.Shelf.Strings.Builder1
import Derived.Shelf.Strings.Builder2
import Derived.Shelf.Strings.OnBuilder
import Derived.Shelf.Strings.Trim
import Derived.Shelf.Small.Utf8
import Derived.Shelf.Small.Bits
import Derived.Shelf.Small.Strs
import Derived.Shelf.Small.Wraps
import Derived.Shelf.Strings.BuilderF
import Derived.Shelf.Strings.BuilderK
import Derived.Shelf.Strings.Builder2Cap
import Derived.Shelf.Strconv.Itoa0
import Derived.Shelf.Strconv.Itoa1
import Derived.Shelf.LaysM
import Derived.Shelf.Strconv.Itoa2
import Derived.Shelf.Strconv.Itoa3
import Derived.Shelf.Strings.Search1
import Derived.Shelf.Strings.Search2
import Derived.Shelf.Strings.Search3
import Derived.Shelf.Strings.Count
import Derived.Shelf.Strings.Shaped
import Derived.Shelf.Strings.Prefix
import Derived.Shelf.Strings.Split
import Derived.Shelf.Strings.Runes
import Derived.Shelf.Strings.AsciiSet
import Derived.Shelf.Bits.Mul64
import Derived.Shelf.Strings.Repeat
import Derived.Shelf.Unicode.DecodeSlow
import Derived.Shelf.Strings.BuilderCap
import Derived.WalkKit
import Derived.WalkSpells
import Derived.WalkLawsBesides
import Derived.Lib.Hide
set_option linter.all false
set_option maxHeartbeats 400000
open Go.Proofs.Tryz
section
namespace Go.Proofs
open Go.Shelf
def adW:=@Lib.byteCells_length
def adX:=@Lib.byteCells_append
def afn:=@Lib.fresh_isBuilder
def Tryz.IK:Go.Shelf.Ren:=⟨fun|169=>25|n=>n,fun|70=>65|9=>9|0=>0|72=>68|37=>66|127=>127|3=>3|5=>5|n=>n,fun|n=>n⟩
def Tryz.Cz:Go.Proofs.Lays.n169 prog Tryz.IK:=YtlkceignfhnpoaaGreatDoor.LL
def Tryz.D3:Builder.Extra prog Tryz.IK:=YtlkceignfhnpoaaGreatDoor.LL
open Go.RowKit in
theorem Tryz.Builder_String_any (B b:Nat) (l:List UInt8) (w:World) (h:Lib.IsBuilder 68 5 B b (Lib.byteCells l) w) (hBw:B<=w.heap.size):
 Calls prog 25 #[.pointer (some ⟨b,0,none⟩)] w fun e w'=>e=.returned (.string ⟨l.toArray⟩)/\Below B w w':=Any.Builder_String_any Tryz.Cz Tryz.D3 B b l w h hBw
def Tryz.IN:Go.Shelf.Ren:=⟨fun|156=>29|165=>55|166=>24|169=>25|240=>53|241=>106|276=>105|277=>163|n=>n,fun|31=>60|9=>9|3=>3|4=>4|0=>0|20=>20|72=>68|76=>71|70=>65|37=>66|75=>70|127=>127|164=>194|5=>5|80=>42|n=>n,fun|n=>n⟩
def Tryz.IP:Go.Proofs.Lays.n156 prog Tryz.IN:=YtlkceignfhnpoaaGreatDoor.LL
def Tryz.Lx:Builder.Extra prog Tryz.IN:=YtlkceignfhnpoaaGreatDoor.LL
open Go.RowKit in
theorem Tryz.strings_Join_none (a:Option Addr) (c:Nat) (sep:ByteArray) (w:World):
 Calls prog 29 #[.slice a 0 c,.string sep] w fun e w'=>e=.returned (.string ⟨#[]⟩)/\w'=w:=Any.strings_Join_none Tryz.IP Tryz.Lx a c sep w
open Go.RowKit in
theorem Tryz.strings_Join (bk o c:Nat) (xs:List ByteArray) (sep:ByteArray) (w:World) (hcells:∀(j:Nat)x,xs[j]? =some x->w.cell? ⟨bk,o+j,none⟩=some (.string x)) (hbk:bk<w.heap.size) (hN:xs.length<=140737488355328) (hcap:xs.length<=c) (hlen:(Lib.join (xs.map (·.data.toList)) sep.data.toList).length<=140737488355328):
 Calls prog 29 #[.slice (some ⟨bk,o,none⟩) xs.length c,.string sep] w fun e w'=>e=.returned (.string ⟨(Lib.join (xs.map (·.data.toList)) sep.data.toList).toArray⟩)/\Below w.heap.size w w':=Any.strings_Join Tryz.IP Tryz.Lx bk o c xs sep w hcells hbk hN hcap hlen
def Tryz.Vg:Go.Shelf.Ren:=⟨fun|160=>215|232=>276|231=>275|227=>277|234=>279|233=>278|236=>281|235=>280|228=>316|271=>318|151=>317|197=>148|120=>348|152=>347|260=>231|137=>235|119=>361|224=>299|225=>298|217=>297|266=>338|n=>n,fun|9=>9|4=>4|3=>3|5=>5|117=>358|116=>357|0=>0|124=>361|21=>21|105=>254|46=>129|119=>376|139=>379|138=>378|n=>n,fun|3=>3|4=>4|n=>n⟩
def Tryz.Vh:Go.Proofs.Lays.n160 prog Tryz.Vg:=YtlkceignfhnpoaaGreatDoor.LL
open Go.RowKit in
theorem Tryz.strings_Trim_one (s:ByteArray) (c:UInt8) (hc:c.toNat<128) (w:World) (hs:s.size<=9223372036854775807):
 Calls prog 215 #[.string s,.string ⟨#[c]⟩] w fun e w'=>e=.returned (.string ⟨(Lib.trimB s.data.toList c).toArray⟩)/\(w'=w\/w'=w.drew):=Any.strings_Trim_one Tryz.Vh s c hc w hs
def Tryz.Vm:Go.Shelf.Ren:=⟨fun|137=>235|217=>297|266=>338|n=>n,fun|9=>9|5=>5|3=>3|n=>n,fun|n=>n⟩
def Tryz.Vn:Go.Proofs.Lays.n137 prog Tryz.Vm:=YtlkceignfhnpoaaGreatDoor.LL
open Go.RowKit in
theorem Tryz.strings_IndexByte (s:ByteArray) (c:Int) (w:World):
 Calls prog 235 #[.string s,.int .u8 c] w fun e w'=>e=.returned (.int .i64 (Lib.indexByte s.data.toList c.toNat.toUInt8))/\w'=w:=Any.strings_IndexByte Tryz.Vn s c w
open Go.RowKit in
theorem Tryz.Builder_String_any_k (B b:Nat) (l:List UInt8) (w:World) (h:Lib.IsBuilderF 68 5 B b (Lib.byteCells l) w) (hBw:B<=w.heap.size):
 Calls prog 25 #[.pointer (some ⟨b,0,none⟩)] w fun e w'=>e=.returned (.string ⟨l.toArray⟩)/\(Lib.IsBuilderF 68 5 B b (Lib.byteCells l) w'/\Below B w w'/\Lib.OthersKept 5 (some b) w w'):=Any.Builder_String_any_k Tryz.Cz Tryz.D3 B b l w h hBw
def Tryz.abJ:Go.Shelf.Ren:=⟨fun|246=>104|283=>159|284=>160|285=>161|286=>162|129=>237|317=>236|318=>238|319=>239|320=>240|337=>303|338=>304|n=>n,fun|2=>2|3=>3|9=>9|4=>4|171=>262|0=>0|53=>263|37=>66|5=>5|173=>266|212=>327|51=>35|20=>20|213=>328|46=>129|232=>403|233=>404|n=>n,fun|17=>1|18=>5|19=>6|n=>n⟩
def Tryz.abK:Go.Shelf.Ren:=⟨fun|243=>52|246=>104|283=>159|284=>160|285=>161|286=>162|129=>237|317=>236|318=>238|319=>239|320=>240|337=>303|338=>304|n=>n,fun|3=>3|9=>9|2=>2|4=>4|171=>262|0=>0|53=>263|37=>66|5=>5|173=>266|212=>327|51=>35|20=>20|213=>328|46=>129|232=>403|233=>404|n=>n,fun|17=>1|18=>5|19=>6|n=>n⟩
def Tryz.Va:Go.Shelf.Ren:=⟨fun|171=>23|243=>52|246=>104|283=>159|284=>160|285=>161|286=>162|129=>237|317=>236|318=>238|319=>239|320=>240|337=>303|338=>304|n=>n,fun|3=>3|9=>9|2=>2|4=>4|171=>262|0=>0|53=>263|37=>66|5=>5|173=>266|212=>327|51=>35|20=>20|213=>328|46=>129|232=>403|233=>404|n=>n,fun|17=>1|18=>5|19=>6|n=>n⟩
def Tryz.Vb:Go.Proofs.LaysM.n171 prog Tryz.Va:=YtlkceignfhnpoaaGreatDoor.LL
open Go.RowKit Go.Sort Go.Lib in
theorem Tryz.strconv_Itoa (n:Int) (h0: -9223372036854775808≤n) (h1:n≤9223372036854775807) (w:World) (htab:Lib.TabIs prog w "internal/strconv.uint64pow10" .u64 Lib.pow10Tab):
 Calls prog 23 #[.int .i64 n] w fun e w'=>e=.returned (.string ⟨(Lib.itoa n).toArray⟩)/\∃k os,w'=grow (w.drewN k) os:=Any.strconv_Itoa Tryz.Vb n h0 h1 w htab
def Tryz.abM:Go.Shelf.Ren:=⟨fun|219=>232|217=>297|225=>298|224=>299|267=>300|266=>338|314=>339|n=>n,fun|9=>9|3=>3|4=>4|5=>5|46=>129|146=>401|51=>35|n=>n,fun|1=>2|n=>n⟩
def Tryz.Vk:Go.Shelf.Ren:=⟨fun|143=>149|219=>232|217=>297|225=>298|224=>299|267=>300|266=>338|314=>339|n=>n,fun|9=>9|3=>3|4=>4|5=>5|46=>129|146=>401|51=>35|n=>n,fun|1=>2|n=>n⟩
def Tryz.Vl:Go.Proofs.Lays.n143 prog Tryz.Vk:=YtlkceignfhnpoaaGreatDoor.LL
open Go.RowKit Go.Lib in
theorem Tryz.strings_Index_one (s:ByteArray) (c:UInt8) (w:World):
 Calls prog 149 #[.string s,.string ⟨#[c]⟩] w fun e w'=>e=.returned (.int .i64 (Lib.indexByte s.data.toList c))/\w'=w:=Any.strings_Index_one Tryz.Vl s c w
def Tryz.abN:Go.Shelf.Ren:=⟨fun|206=>83|n=>n,fun|9=>9|4=>4|3=>3|n=>n,fun|n=>n⟩
def Tryz.Vc:Go.Shelf.Ren:=⟨fun|99=>44|206=>83|n=>n,fun|9=>9|4=>4|3=>3|n=>n,fun|n=>n⟩
def Tryz.Vd:Go.Proofs.Lays.n99 prog Tryz.Vc:=YtlkceignfhnpoaaGreatDoor.LL
open Go.RowKit Go.Lib in
theorem Tryz.strings_HasPrefix (s p:ByteArray) (w:World):
 Calls prog 44 #[.string s,.string p] w fun e w'=>e=.returned (.bool (Lib.hasPrefix s.data.toList p.data.toList))/\w'=w:=Any.strings_HasPrefix Tryz.Vd s p w
def Tryz.abL:Go.Shelf.Ren:=⟨fun|221=>150|268=>233|138=>234|143=>149|195=>301|197=>148|218=>302|219=>232|260=>231|217=>297|225=>298|224=>299|267=>300|266=>338|314=>339|n=>n,fun|9=>9|3=>3|31=>60|4=>4|0=>0|105=>254|21=>21|5=>5|46=>129|119=>376|139=>379|138=>378|146=>401|51=>35|n=>n,fun|1=>2|3=>3|4=>4|n=>n⟩
def Tryz.Vi:Go.Shelf.Ren:=⟨fun|146=>84|221=>150|268=>233|138=>234|143=>149|195=>301|197=>148|218=>302|219=>232|260=>231|217=>297|225=>298|224=>299|267=>300|266=>338|314=>339|n=>n,fun|9=>9|31=>60|3=>3|4=>4|0=>0|105=>254|21=>21|5=>5|46=>129|119=>376|139=>379|138=>378|146=>401|51=>35|n=>n,fun|1=>2|3=>3|4=>4|n=>n⟩
def Tryz.Vj:Go.Proofs.Lays.n146 prog Tryz.Vi:=YtlkceignfhnpoaaGreatDoor.LL
open Go.RowKit Go.Lib in
theorem Tryz.strings_Split (s sep:ByteArray) (m:Int) (w:World) (hs:s.size<4294967281) (hm:w.cell? ⟨2,0,none⟩=some (.int .i64 m)) (h1:1<=sep.size):
 Calls prog 84 #[.string s,.string sep] w fun e w'=>
  e=.returned (.slice (some ⟨w.heap.size,0,none⟩) (Lib.countB s sep+1) (Lib.countB s sep+1))/\w'=w.alloc (.cells ((Lib.splitB sep 0 (Lib.countB s sep) s).map Value.string).toArray 9):=Any.strings_Split Tryz.Vj (by kernel_rfl) s sep m w hs hm h1
def Tryz.IQ:Go.Shelf.Ren:=⟨fun|105=>261|212=>314|99=>44|165=>55|166=>24|170=>315|169=>25|263=>345|264=>346|206=>83|240=>53|241=>106|276=>105|277=>163|n=>n,fun|9=>9|3=>3|4=>4|20=>20|0=>0|46=>129|109=>390|5=>5|72=>68|76=>71|51=>35|146=>401|53=>263|148=>409|70=>65|37=>66|75=>70|127=>127|164=>194|80=>42|n=>n,fun|n=>n⟩
def Tryz.Vo:Go.Proofs.Lays.n105 prog Tryz.IQ:=YtlkceignfhnpoaaGreatDoor.LL
def Tryz.abm:Builder.Extra prog Tryz.IQ:=YtlkceignfhnpoaaGreatDoor.LL
open Go.RowKit Go.Lib in
theorem Tryz.strings_Repeat (s:ByteArray) (c:Nat) (w:World) (hc:c<=9223372036854775807) (hlen:s.size*c<=140737488355328):
 Calls prog 261 #[.string s,.int .i64 c] w fun e w'=>e=.returned (.string ⟨(Lib.repeatL s.data.toList c).toArray⟩)/\Below w.heap.size w w':=Any.strings_Repeat Tryz.Vo Tryz.abm s c w hc hlen
def Tryz.II:Go.Shelf.Ren:=⟨fun|240=>53|276=>105|n=>n,fun|0=>0|4=>4|9=>9|20=>20|70=>65|72=>68|164=>194|5=>5|37=>66|n=>n,fun|n=>n⟩
def Tryz.IJ:Go.Proofs.Lays.n240 prog Tryz.II:=YtlkceignfhnpoaaGreatDoor.LL
def Tryz.IL:Go.Shelf.Ren:=⟨fun|167=>54|240=>53|276=>105|n=>n,fun|0=>0|4=>4|5=>5|9=>9|20=>20|37=>66|70=>65|72=>68|75=>70|164=>194|80=>42|n=>n,fun|n=>n⟩
def Tryz.Ve:Go.Proofs.Lays.n167 prog Tryz.IL:=YtlkceignfhnpoaaGreatDoor.LL
def Tryz.IM:Go.Shelf.Ren:=⟨fun|166=>24|240=>53|276=>105|n=>n,fun|0=>0|3=>3|4=>4|9=>9|20=>20|37=>66|70=>65|72=>68|75=>70|164=>194|5=>5|80=>42|n=>n,fun|n=>n⟩
def Tryz.Vf:Go.Proofs.Lays.n166 prog Tryz.IM:=YtlkceignfhnpoaaGreatDoor.LL
open Go.RowKit in
theorem Tryz.Lw:Builder.X72 prog Tryz.II:={
 sizeBuilder:=by kernel_rfl
 liesBuilder:=by kernel_rfl}
open Go.RowKit in
theorem Tryz.abk:Builder.Extra prog Tryz.IL:={
 sizeBuilder:=by kernel_rfl
 liesBuilder:=by kernel_rfl
 t5:=underlying5
 a5:=isAgg5
 z5:=sizeOf5
 v5:=zeroValue5
 infoByte:=by kernel_rfl
 cellsByte:=by kernel_rfl
 sizeByte:=by kernel_rfl
 neB5:=by decide}
open Go.RowKit in
theorem Tryz.Builder_WriteByte (B b:Nat) (bs:List Value) (c:Int) (w:World) (h:Lib.IsBuilder 68 5 B b bs w) (hlen:bs.length+1<=140737488355328) (hBw:B<=w.heap.size):
 Calls prog 54 #[.pointer (some ⟨b,0,none⟩),.int .u8 c] w fun e w'=>e=.returned .nilIface/\(Lib.BuilderAt 68 5 B b (.pointer (some ⟨b,0,none⟩)) (bs++[.int .u8 c]) w'/\Below B w w'):=Any.Builder_WriteByte Tryz.Ve Tryz.abk B b bs c w h hlen hBw
open Go.RowKit in
theorem Tryz.abl:Builder.Extra prog Tryz.IM:={
 sizeBuilder:=by kernel_rfl
 liesBuilder:=by kernel_rfl
 t5:=underlying5
 a5:=isAgg5
 z5:=sizeOf5
 v5:=zeroValue5
 infoByte:=by kernel_rfl
 cellsByte:=by kernel_rfl
 sizeByte:=by kernel_rfl
 neB5:=by decide}
open Go.RowKit in
theorem Tryz.Builder_WriteString_k (B b:Nat) (bs:List Value) (s:ByteArray) (w:World) (h:Lib.IsBuilderF 68 5 B b bs w) (hlen:bs.length+s.size<=140737488355328) (hBw:B<=w.heap.size):
 Calls prog 24 #[.pointer (some ⟨b,0,none⟩),.string s] w fun e w'=>e=.returned (.tuple #[.int .i64 s.size,.nilIface])/\(Lib.BuilderAtF 68 5 B b (.pointer (some ⟨b,0,none⟩)) (bs++Lib.strCells s) w'/\Below B w w'/\Lib.OthersKept 5 (some b) w w'):=Any.Builder_WriteString_k Tryz.Vf Tryz.abl B b bs s w h hlen hBw
end Go.Proofs
end
section
namespace Go.Proofs.YtlkceignfhnpoaaGreatDoor
open Go.RowKit
theorem zy (s:bm) (w:bt) (C:s.size<=1000000): Calls prog 28 #[.string s] w fun e y=>e=.returned (.string ⟨(iX s.data.toList).toArray⟩)/\Below w.heap.size w y:=by by_cases p:s.toList.isEmpty;{have t:s.data.toList=[]:=by{rw[aeS]at p;rw[Lib.toList_data]at p;exact p};have u:=Lib.hid t;clear t;go_enter func28,ntmps28;go_wp2;go_ret;exact⟨by rw[u.out];simp[iX],Below.refl _ _⟩};{go_enter func28,ntmps28;go_wp2;go_loopw [9] (fun i wr=>∃k:Nat,k<=s.size/\i=.int .i64 k/\Lib.IsBuilder 68 5 w.heap.size w.heap.size (Lib.byteCells (jL (s.data.toList.take k))) wr/\Below w.heap.size w wr) (fun i _=>s.size-(intOf i).toNat);(case atStart=>exact⟨0,qd _,rfl,afn _ _ w,(Below.refl _ _).alloc Z _⟩);(case round=>obtain⟨k,B,rfl,f,b⟩:=hrel;by_cases r:k<s.size;{have x:(s[k].toNat:Int)<=255:=by{have:=s[k].toNat_lt;omega};have q:(jL (s.data.toList.take k)).length<=2000000:=by{rw[CK];have:=agu k s.data.toList;omega};have n:=b.size;go_wp2_with fail;refine(Tryz.Builder_WriteByte _ _ _ _ _ f (by rw[adW];omega) n).mono ?_;rintro e z⟨rfl,l,a⟩;go_wp2_with fail;have o:=fq n a.size;refine(Tryz.Builder_WriteByte _ _ _ _ _ (Or.inr l) (by rw[dw,adW];simp;omega) o).mono ?_;rintro e A⟨rfl,g,c⟩;have v:Lib.IsBuilder 68 5 w.heap.size w.heap.size (Lib.byteCells (jL (s.data.toList.take (k+1)))) A:=by{rw[Wg s k r,adX,adX];rw[Kk V,Kk V]at g;exact Or.inr g};have j:=(b.trans a).trans c;clear l g f b a c x q;go_wp2_with fail;go_roundw;(case rel=>exact⟨k+1,V,by go_num,v,j⟩);(case measure=>simp[intOf];omega)};{have m:k=s.size:=V;have d:s.data.toList.take k=s.data.toList:=by{rw[m];exact wm J};rw[d]at f;clear d m;go_wp2_with fail;refine(Tryz.Builder_String_any _ _ _ _ f b.size).mono ?_;rintro e z⟨rfl,a⟩;go_wp2_with fail;go_ret;refine⟨?_,b.trans a⟩;rw[iX,ed];{rfl};{intro h;exact p (by rw[aeS,Lib.toList_data];exact h)}})}
end Go.Proofs.YtlkceignfhnpoaaGreatDoor
end
