/-
  Known calls.
-/
import Derived.Test.YtmodghiokoiipaaGreatGc
namespace Go.Proofs.YtmodghiokoiipaaGreat
open Go Go.RowKit

def e88 : E := ⟨133, #[(.slice (some ⟨12, 0, none⟩) 4 4), (.int .i64 1)], [(12, ob0)], 223, (.slice (some ⟨230, 0, none⟩) 1 1), (some [(236, ob10), (230, ob44), (12, ob0)]), 238⟩
theorem k88 : e88.Ok Tryz.prog := okT (l := [e85, e87]) (okC k85 (okC k87 okN)) (by kernel_rfl)
def e89 : E := ⟨132, #[(.slice (some ⟨230, 0, none⟩) 1 1), (.func (.func 134) #[] #[]), (.func (.func 136) #[] #[])], [(236, ob10), (230, ob44)], 238, (.slice (some ⟨240, 0, none⟩) 1 1), (some [(240, ob44), (236, ob10), (230, ob44)]), 241⟩
theorem k89 : e89.Ok Tryz.prog := okT (l := []) okN (by kernel_rfl)
def e90 : E := ⟨93, #[(.slice (some ⟨12, 0, none⟩) 4 4), (.int .i64 1)], [(12, ob0)], 223, (.slice (some ⟨245, 0, none⟩) 1 1), (some [(245, ob45), (243, ob10), (12, ob0)]), 246⟩
theorem k90 : e90.Ok Tryz.prog := okT (l := [e88, e89]) (okC k88 (okC k89 okN)) (by kernel_rfl)
def e91 : E := ⟨188, #[(.agg #[(.int .i64 0), (.int .i64 12622780800), (.string ⟨#[98, 97, 115, 105, 99]⟩), (.slice (some ⟨243, 0, none⟩) 1 1), (.bool false), (.bool false)]), (.pointer (some ⟨222, 0, none⟩))], [(243, ob10), (222, ob10)], 247, (.bool true), none, 248⟩
theorem k91 : e91.Ok Tryz.prog := okT (l := []) okN (by kernel_rfl)
def e92 : E := ⟨211, #[(.slice (some ⟨249, 0, none⟩) 1 1), (.func (.func 212) #[] #[]), (.func (.func 213) #[] #[])], [(249, ob46)], 250, (.slice (some ⟨252, 0, none⟩) 1 1), (some [(252, ob46), (249, ob46)]), 253⟩
theorem k92 : e92.Ok Tryz.prog := okT (l := []) okN (by kernel_rfl)
def e93 : E := ⟨187, #[(.slice (some ⟨12, 0, none⟩) 4 4), (.int .i64 1), (.func (.func 188) #[] #[(.pointer (some ⟨222, 0, none⟩))])], [(222, ob10), (12, ob0)], 223, (.slice (some ⟨252, 0, none⟩) 1 1), (some [(252, ob46), (222, ob10), (12, ob0)]), 253⟩
theorem k93 : e93.Ok Tryz.prog := okT (l := [e90, e91, e92]) (okC k90 (okC k91 (okC k92 okN))) (by kernel_rfl)
def e94 : E := ⟨153, #[(.slice (some ⟨12, 0, none⟩) 4 4), (.int .i64 1), (.string ⟨#[112, 97, 99, 107]⟩)], [(12, ob0)], 222, (.slice (some ⟨252, 0, none⟩) 1 1), (some [(252, ob46), (12, ob0)]), 253⟩
theorem k94 : e94.Ok Tryz.prog := okT (l := [e93]) (okC k93 okN) (by kernel_rfl)
def e95 : E := ⟨108, #[(.slice (some ⟨12, 0, none⟩) 4 4), (.int .i64 1)], [(12, ob0)], 216, (.slice (some ⟨255, 0, none⟩) 1 1), (some [(255, ob47), (252, ob46), (12, ob0)]), 257⟩
theorem k95 : e95.Ok Tryz.prog := okT (l := [e94]) (okC k94 okN) (by kernel_rfl)
def e96 : E := ⟨13, #[(.agg #[(.int .i64 0), (.int .i64 12622780800)])], [], 267, (.bool true), none, 268⟩
theorem k96 : e96.Ok Tryz.prog := okT (l := []) okN (by kernel_rfl)
def e97 : E := ⟨13, #[(.agg #[(.int .i64 0), (.int .i64 1001)])], [], 268, (.bool true), none, 269⟩
theorem k97 : e97.Ok Tryz.prog := okT (l := []) okN (by kernel_rfl)
def e98 : E := ⟨28, #[(.agg #[(.int .i64 0), (.int .i64 12622780800)]), (.agg #[(.int .i64 0), (.int .i64 1001)])], [], 263, (.tuple #[(.agg #[(.int .i64 0), (.int .i64 1001)]), (.bool true)]), none, 269⟩
theorem k98 : e98.Ok Tryz.prog := okT (l := [e96, e97]) (okC k96 (okC k97 okN)) (by kernel_rfl)
def e99 : E := ⟨223, #[(.int .i64 2001)], [], 273, (.int .i64 366), none, 273⟩
theorem k99 : e99.Ok Tryz.prog := okT (l := []) okN (by kernel_rfl)
def e100 : E := ⟨223, #[(.int .i64 2000)], [], 273, (.int .i64 0), none, 273⟩
theorem k100 : e100.Ok Tryz.prog := okT (l := []) okN (by kernel_rfl)
def e101 : E := ⟨224, #[(.int .i64 2000), (.int .i64 1)], [], 273, (.int .i64 31), none, 274⟩
theorem k101 : e101.Ok Tryz.prog := okT (l := []) okN (by kernel_rfl)
def e102 : E := ⟨198, #[(.int .i64 0)], [], 271, (.agg #[(.int .i64 2000), (.int .i64 1), (.int .i64 1)]), none, 274⟩
theorem k102 : e102.Ok Tryz.prog := okT (l := [e99, e100, e101]) (okC k99 (okC k100 (okC k101 okN))) (by kernel_rfl)
def e103 : E := ⟨170, #[(.int .i64 1), (.int .i64 0)], [], 271, (.int .i64 0), none, 275⟩
theorem k103 : e103.Ok Tryz.prog := okT (l := [e102]) (okC k102 okN) (by kernel_rfl)
def e104 : E := ⟨223, #[(.int .i64 2001)], [], 277, (.int .i64 366), none, 277⟩
theorem k104 : e104.Ok Tryz.prog := okT (l := []) okN (by kernel_rfl)
def e105 : E := ⟨223, #[(.int .i64 2000)], [], 277, (.int .i64 0), none, 277⟩
theorem k105 : e105.Ok Tryz.prog := okT (l := []) okN (by kernel_rfl)
def e106 : E := ⟨224, #[(.int .i64 2000), (.int .i64 1)], [], 277, (.int .i64 31), none, 278⟩
theorem k106 : e106.Ok Tryz.prog := okT (l := []) okN (by kernel_rfl)
def e107 : E := ⟨198, #[(.int .i64 0)], [], 275, (.agg #[(.int .i64 2000), (.int .i64 1), (.int .i64 1)]), none, 278⟩
theorem k107 : e107.Ok Tryz.prog := okT (l := [e104, e105, e106]) (okC k104 (okC k105 (okC k106 okN))) (by kernel_rfl)
def e108 : E := ⟨170, #[(.int .i64 1), (.int .i64 1000)], [], 275, (.int .i64 0), none, 279⟩
theorem k108 : e108.Ok Tryz.prog := okT (l := [e107]) (okC k107 okN) (by kernel_rfl)
def e109 : E := ⟨235, #[(.int .i64 2000)], [], 282, (.bool true), none, 282⟩
theorem k109 : e109.Ok Tryz.prog := okT (l := []) okN (by kernel_rfl)
def e110 : E := ⟨224, #[(.int .i64 2000), (.int .i64 2)], [], 281, (.int .i64 29), none, 282⟩
theorem k110 : e110.Ok Tryz.prog := okT (l := [e109]) (okC k109 okN) (by kernel_rfl)
def e111 : E := ⟨234, #[(.int .i64 2000), (.int .i64 2)], [], 281, (.int .i64 29), none, 282⟩
theorem k111 : e111.Ok Tryz.prog := okT (l := [e110]) (okC k110 okN) (by kernel_rfl)
def e112 : E := ⟨223, #[(.int .i64 2000)], [], 282, (.int .i64 0), none, 282⟩
theorem k112 : e112.Ok Tryz.prog := okT (l := []) okN (by kernel_rfl)
def e113 : E := ⟨224, #[(.int .i64 2000), (.int .i64 1)], [], 282, (.int .i64 31), none, 283⟩
theorem k113 : e113.Ok Tryz.prog := okT (l := []) okN (by kernel_rfl)
def e114 : E := ⟨222, #[(.agg #[(.int .i64 2000), (.int .i64 2), (.int .i64 1)])], [], 280, (.tuple #[(.int .i64 31), (.int .i64 0)]), none, 283⟩
theorem k114 : e114.Ok Tryz.prog := okT (l := [e111, e112, e113]) (okC k111 (okC k112 (okC k113 okN))) (by kernel_rfl)
def e115 : E := ⟨197, #[(.int .i64 1), (.int .i64 1)], [], 280, (.int .i64 2678400), none, 283⟩
theorem k115 : e115.Ok Tryz.prog := okT (l := [e114]) (okC k114 okN) (by kernel_rfl)
def e116 : E := ⟨224, #[(.int .i64 2000), (.int .i64 1)], [], 285, (.int .i64 31), none, 286⟩
theorem k116 : e116.Ok Tryz.prog := okT (l := []) okN (by kernel_rfl)
def e117 : E := ⟨234, #[(.int .i64 2000), (.int .i64 1)], [], 285, (.int .i64 31), none, 286⟩
theorem k117 : e117.Ok Tryz.prog := okT (l := [e116]) (okC k116 okN) (by kernel_rfl)
def e118 : E := ⟨223, #[(.int .i64 2000)], [], 286, (.int .i64 0), none, 286⟩
theorem k118 : e118.Ok Tryz.prog := okT (l := []) okN (by kernel_rfl)
def e119 : E := ⟨222, #[(.agg #[(.int .i64 2000), (.int .i64 1), (.int .i64 1)])], [], 284, (.tuple #[(.int .i64 0), (.int .i64 0)]), none, 286⟩
theorem k119 : e119.Ok Tryz.prog := okT (l := [e117, e118]) (okC k117 (okC k118 okN)) (by kernel_rfl)
def e120 : E := ⟨197, #[(.int .i64 1), (.int .i64 0)], [], 284, (.int .i64 0), none, 286⟩
theorem k120 : e120.Ok Tryz.prog := okT (l := [e119]) (okC k119 okN) (by kernel_rfl)
def e121 : E := ⟨169, #[(.int .i64 1), (.int .i64 0)], [], 279, (.agg #[(.int .i64 0), (.int .i64 2678400)]), none, 286⟩
theorem k121 : e121.Ok Tryz.prog := okT (l := [e115, e120]) (okC k115 (okC k120 okN)) (by kernel_rfl)
def e122 : E := ⟨223, #[(.int .i64 2001)], [], 290, (.int .i64 366), none, 290⟩
theorem k122 : e122.Ok Tryz.prog := okT (l := []) okN (by kernel_rfl)
def e123 : E := ⟨223, #[(.int .i64 2000)], [], 290, (.int .i64 0), none, 290⟩
theorem k123 : e123.Ok Tryz.prog := okT (l := []) okN (by kernel_rfl)
def e124 : E := ⟨224, #[(.int .i64 2000), (.int .i64 1)], [], 290, (.int .i64 31), none, 291⟩
theorem k124 : e124.Ok Tryz.prog := okT (l := []) okN (by kernel_rfl)
def e125 : E := ⟨198, #[(.int .i64 0)], [], 288, (.agg #[(.int .i64 2000), (.int .i64 1), (.int .i64 1)]), none, 291⟩
theorem k125 : e125.Ok Tryz.prog := okT (l := [e122, e123, e124]) (okC k122 (okC k123 (okC k124 okN))) (by kernel_rfl)
def e126 : E := ⟨170, #[(.int .i64 1), (.int .i64 1000)], [], 288, (.int .i64 0), none, 292⟩
theorem k126 : e126.Ok Tryz.prog := okT (l := [e125]) (okC k125 okN) (by kernel_rfl)
def e127 : E := ⟨156, #[(.int .i64 1), (.agg #[(.int .i64 0), (.int .i64 1001)])], [], 270, (.slice (some ⟨287, 0, none⟩) 1 1), (some [(287, ob48)]), 292⟩
theorem k127 : e127.Ok Tryz.prog := okT (l := [e103, e108, e121, e126]) (okC k103 (okC k108 (okC k121 (okC k126 okN)))) (by kernel_rfl)
def e128 : E := ⟨155, #[(.agg #[(.int .i64 0), (.int .i64 12622780800)]), (.pointer (some ⟨258, 0, none⟩)), (.pointer (some ⟨259, 0, none⟩)), (.pointer (some ⟨257, 0, none⟩))], [(259, ob50), (258, ob15), (257, ob17)], 262, (.tuple #[]), (some [(292, ob48), (259, ob49), (258, ob15), (257, ob17)]), 293⟩
theorem k128 : e128.Ok Tryz.prog := okT (l := [e98, e127]) (okC k98 (okC k127 okN)) (by kernel_rfl)
def e129 : E := ⟨13, #[(.agg #[(.int .i64 0), (.int .i64 2678400)])], [], 295, (.bool true), none, 296⟩
theorem k129 : e129.Ok Tryz.prog := okT (l := []) okN (by kernel_rfl)
def e130 : E := ⟨214, #[(.slice (some ⟨292, 0, none⟩) 1 1), (.int .i64 0), (.pointer (some ⟨293, 0, none⟩))], [(293, ob53), (292, ob48)], 294, (.tuple #[]), (some [(297, ob51), (293, ob52), (292, ob48)]), 298⟩
theorem k130 : e130.Ok Tryz.prog := okT (l := [e129]) (okC k129 okN) (by kernel_rfl)
def e131 : E := ⟨214, #[(.slice none 0 0), (.int .i64 1), (.pointer (some ⟨293, 0, none⟩))], [(297, ob51), (293, ob52)], 298, (.tuple #[]), none, 298⟩
theorem k131 : e131.Ok Tryz.prog := okT (l := []) okN (by kernel_rfl)
def e132 : E := ⟨250, #[(.int .u64 2)], [], 298, (.int .i64 2), none, 298⟩
theorem k132 : e132.Ok Tryz.prog := okT (l := []) okN (by kernel_rfl)
def e133 : E := ⟨231, #[(.int .u64 2)], [], 298, (.int .i64 2), none, 298⟩
theorem k133 : e133.Ok Tryz.prog := okT (l := [e132]) (okC k132 okN) (by kernel_rfl)
def e134 : E := ⟨216, #[(.agg #[(.int .i64 2678400), (.int .i64 0), (.int .i64 (-1))]), (.agg #[(.int .i64 0), (.int .i64 0), (.int .i64 1)])], [], 298, (.int .i64 2678400), none, 300⟩
theorem k134 : e134.Ok Tryz.prog := okT (l := []) okN (by kernel_rfl)
def e135 : E := ⟨241, #[(.slice (some ⟨297, 0, none⟩) 2 2), (.int .i64 0), (.int .i64 2), (.func (.func 216) #[] #[])], [(297, ob51)], 298, (.tuple #[]), none, 300⟩
theorem k135 : e135.Ok Tryz.prog := okT (l := [e134]) (okC k134 okN) (by kernel_rfl)
def e136 : E := ⟨230, #[(.slice (some ⟨297, 0, none⟩) 2 2), (.int .i64 0), (.int .i64 2), (.int .i64 2), (.func (.func 216) #[] #[])], [(297, ob51)], 298, (.tuple #[]), none, 300⟩
theorem k136 : e136.Ok Tryz.prog := okT (l := [e135]) (okC k135 okN) (by kernel_rfl)
def e137 : E := ⟨215, #[(.slice (some ⟨297, 0, none⟩) 2 2), (.func (.func 216) #[] #[])], [(297, ob51)], 298, (.tuple #[]), none, 300⟩
theorem k137 : e137.Ok Tryz.prog := okT (l := [e133, e136]) (okC k133 (okC k136 okN)) (by kernel_rfl)
def e138 : E := ⟨190, #[(.bool true), (.bool false)], [], 302, (.bool true), none, 302⟩
theorem k138 : e138.Ok Tryz.prog := okT (l := []) okN (by kernel_rfl)
def e139 : E := ⟨190, #[(.bool false), (.bool false)], [], 305, (.bool false), none, 305⟩
theorem k139 : e139.Ok Tryz.prog := okT (l := []) okN (by kernel_rfl)
def e140 : E := ⟨189, #[(.slice (some ⟨292, 0, none⟩) 1 1), (.slice none 0 0), (.func (.func 190) #[] #[])], [(292, ob48)], 293, (.slice (some ⟨303, 0, none⟩) 1 1), (some [(303, ob48), (292, ob48)]), 305⟩
theorem k140 : e140.Ok Tryz.prog := okT (l := [e130, e131, e137, e138, e139]) (okC k130 (okC k131 (okC k137 (okC k138 (okC k139 okN))))) (by kernel_rfl)
def e141 : E := ⟨157, #[(.slice (some ⟨292, 0, none⟩) 1 1)], [(292, ob48)], 293, (.slice (some ⟨303, 0, none⟩) 1 1), (some [(303, ob48), (292, ob48)]), 305⟩
theorem k141 : e141.Ok Tryz.prog := okT (l := [e140]) (okC k140 okN) (by kernel_rfl)
def e142 : E := ⟨223, #[(.int .i64 2001)], [], 309, (.int .i64 366), none, 309⟩
theorem k142 : e142.Ok Tryz.prog := okT (l := []) okN (by kernel_rfl)
def e143 : E := ⟨223, #[(.int .i64 2000)], [], 309, (.int .i64 0), none, 309⟩
theorem k143 : e143.Ok Tryz.prog := okT (l := []) okN (by kernel_rfl)
def e144 : E := ⟨224, #[(.int .i64 2000), (.int .i64 1)], [], 309, (.int .i64 31), none, 310⟩
theorem k144 : e144.Ok Tryz.prog := okT (l := []) okN (by kernel_rfl)
def e145 : E := ⟨198, #[(.int .i64 0)], [], 307, (.agg #[(.int .i64 2000), (.int .i64 1), (.int .i64 1)]), none, 310⟩
theorem k145 : e145.Ok Tryz.prog := okT (l := [e142, e143, e144]) (okC k142 (okC k143 (okC k144 okN))) (by kernel_rfl)
def e146 : E := ⟨170, #[(.int .i64 1), (.int .i64 0)], [], 307, (.int .i64 0), none, 311⟩
theorem k146 : e146.Ok Tryz.prog := okT (l := [e145]) (okC k145 okN) (by kernel_rfl)
def e147 : E := ⟨223, #[(.int .i64 2001)], [], 313, (.int .i64 366), none, 313⟩
theorem k147 : e147.Ok Tryz.prog := okT (l := []) okN (by kernel_rfl)
def e148 : E := ⟨223, #[(.int .i64 2000)], [], 313, (.int .i64 0), none, 313⟩
theorem k148 : e148.Ok Tryz.prog := okT (l := []) okN (by kernel_rfl)
def e149 : E := ⟨224, #[(.int .i64 2000), (.int .i64 1)], [], 313, (.int .i64 31), none, 314⟩
theorem k149 : e149.Ok Tryz.prog := okT (l := []) okN (by kernel_rfl)
def e150 : E := ⟨198, #[(.int .i64 30)], [], 311, (.agg #[(.int .i64 2000), (.int .i64 1), (.int .i64 31)]), none, 314⟩
theorem k150 : e150.Ok Tryz.prog := okT (l := [e147, e148, e149]) (okC k147 (okC k148 (okC k149 okN))) (by kernel_rfl)
def e151 : E := ⟨170, #[(.int .i64 1), (.int .i64 2678399)], [], 311, (.int .i64 0), none, 315⟩
theorem k151 : e151.Ok Tryz.prog := okT (l := [e150]) (okC k150 okN) (by kernel_rfl)
def e152 : E := ⟨235, #[(.int .i64 2000)], [], 318, (.bool true), none, 318⟩
theorem k152 : e152.Ok Tryz.prog := okT (l := []) okN (by kernel_rfl)
def e153 : E := ⟨224, #[(.int .i64 2000), (.int .i64 2)], [], 317, (.int .i64 29), none, 318⟩
theorem k153 : e153.Ok Tryz.prog := okT (l := [e152]) (okC k152 okN) (by kernel_rfl)
def e154 : E := ⟨234, #[(.int .i64 2000), (.int .i64 2)], [], 317, (.int .i64 29), none, 318⟩
theorem k154 : e154.Ok Tryz.prog := okT (l := [e153]) (okC k153 okN) (by kernel_rfl)
def e155 : E := ⟨223, #[(.int .i64 2000)], [], 318, (.int .i64 0), none, 318⟩
theorem k155 : e155.Ok Tryz.prog := okT (l := []) okN (by kernel_rfl)
def e156 : E := ⟨224, #[(.int .i64 2000), (.int .i64 1)], [], 318, (.int .i64 31), none, 319⟩
theorem k156 : e156.Ok Tryz.prog := okT (l := []) okN (by kernel_rfl)
def e157 : E := ⟨222, #[(.agg #[(.int .i64 2000), (.int .i64 2), (.int .i64 1)])], [], 316, (.tuple #[(.int .i64 31), (.int .i64 0)]), none, 319⟩
theorem k157 : e157.Ok Tryz.prog := okT (l := [e154, e155, e156]) (okC k154 (okC k155 (okC k156 okN))) (by kernel_rfl)
def e158 : E := ⟨197, #[(.int .i64 1), (.int .i64 1)], [], 316, (.int .i64 2678400), none, 319⟩
theorem k158 : e158.Ok Tryz.prog := okT (l := [e157]) (okC k157 okN) (by kernel_rfl)
def e159 : E := ⟨224, #[(.int .i64 2000), (.int .i64 1)], [], 321, (.int .i64 31), none, 322⟩
theorem k159 : e159.Ok Tryz.prog := okT (l := []) okN (by kernel_rfl)
def e160 : E := ⟨234, #[(.int .i64 2000), (.int .i64 1)], [], 321, (.int .i64 31), none, 322⟩
theorem k160 : e160.Ok Tryz.prog := okT (l := [e159]) (okC k159 okN) (by kernel_rfl)
def e161 : E := ⟨223, #[(.int .i64 2000)], [], 322, (.int .i64 0), none, 322⟩
theorem k161 : e161.Ok Tryz.prog := okT (l := []) okN (by kernel_rfl)
def e162 : E := ⟨222, #[(.agg #[(.int .i64 2000), (.int .i64 1), (.int .i64 1)])], [], 320, (.tuple #[(.int .i64 0), (.int .i64 0)]), none, 322⟩
theorem k162 : e162.Ok Tryz.prog := okT (l := [e160, e161]) (okC k160 (okC k161 okN)) (by kernel_rfl)
def e163 : E := ⟨197, #[(.int .i64 1), (.int .i64 0)], [], 320, (.int .i64 0), none, 322⟩
theorem k163 : e163.Ok Tryz.prog := okT (l := [e162]) (okC k162 okN) (by kernel_rfl)
def e164 : E := ⟨169, #[(.int .i64 1), (.int .i64 0)], [], 315, (.agg #[(.int .i64 0), (.int .i64 2678400)]), none, 322⟩
theorem k164 : e164.Ok Tryz.prog := okT (l := [e158, e163]) (okC k158 (okC k163 okN)) (by kernel_rfl)
def e165 : E := ⟨223, #[(.int .i64 2001)], [], 326, (.int .i64 366), none, 326⟩
theorem k165 : e165.Ok Tryz.prog := okT (l := []) okN (by kernel_rfl)
def e166 : E := ⟨223, #[(.int .i64 2000)], [], 326, (.int .i64 0), none, 326⟩
theorem k166 : e166.Ok Tryz.prog := okT (l := []) okN (by kernel_rfl)
def e167 : E := ⟨224, #[(.int .i64 2000), (.int .i64 1)], [], 326, (.int .i64 31), none, 327⟩
theorem k167 : e167.Ok Tryz.prog := okT (l := []) okN (by kernel_rfl)
def e168 : E := ⟨198, #[(.int .i64 30)], [], 324, (.agg #[(.int .i64 2000), (.int .i64 1), (.int .i64 31)]), none, 327⟩
theorem k168 : e168.Ok Tryz.prog := okT (l := [e165, e166, e167]) (okC k165 (okC k166 (okC k167 okN))) (by kernel_rfl)
def e169 : E := ⟨170, #[(.int .i64 1), (.int .i64 2678399)], [], 324, (.int .i64 0), none, 328⟩
theorem k169 : e169.Ok Tryz.prog := okT (l := [e168]) (okC k168 okN) (by kernel_rfl)
def e170 : E := ⟨156, #[(.int .i64 1), (.agg #[(.int .i64 0), (.int .i64 2678400)])], [], 306, (.slice (some ⟨323, 0, none⟩) 1 1), (some [(323, ob48)]), 328⟩
theorem k170 : e170.Ok Tryz.prog := okT (l := [e146, e151, e164, e169]) (okC k146 (okC k151 (okC k164 (okC k169 okN)))) (by kernel_rfl)
def e171 : E := ⟨109, #[(.slice (some ⟨255, 0, none⟩) 1 1), (.int .i64 1), (.int .i64 1000)], [(255, ob47), (252, ob46)], 257, (.slice (some ⟨328, 0, none⟩) 1 1), (some [(328, ob48), (255, ob47), (252, ob46)]), 329⟩
theorem k171 : e171.Ok Tryz.prog := okT (l := [e128, e141, e170]) (okC k128 (okC k141 (okC k170 okN))) (by kernel_rfl)
def e172 : E := ⟨13, #[(.agg #[(.int .i64 0), (.int .i64 12622780800)])], [], 338, (.bool true), none, 339⟩
theorem k172 : e172.Ok Tryz.prog := okT (l := []) okN (by kernel_rfl)
def e173 : E := ⟨13, #[(.agg #[(.int .i64 0), (.int .i64 2678400)])], [], 339, (.bool true), none, 340⟩
theorem k173 : e173.Ok Tryz.prog := okT (l := []) okN (by kernel_rfl)
def e174 : E := ⟨28, #[(.agg #[(.int .i64 0), (.int .i64 12622780800)]), (.agg #[(.int .i64 0), (.int .i64 2678400)])], [], 334, (.tuple #[(.agg #[(.int .i64 0), (.int .i64 2678400)]), (.bool true)]), none, 340⟩
theorem k174 : e174.Ok Tryz.prog := okT (l := [e172, e173]) (okC k172 (okC k173 okN)) (by kernel_rfl)
def e175 : E := ⟨192, #[(.agg #[(.string ⟨#[112, 97, 99, 107]⟩), (.int .i64 0), (.int .i64 0), (.string ⟨#[102, 101, 101]⟩), (.bool false), (.slice (some ⟨8, 0, none⟩) 1 1)]), (.pointer (some ⟨341, 0, none⟩)), (.pointer (some ⟨342, 0, none⟩))], [(342, ob54), (341, ob10), (8, ob3)], 345, (.bool true), none, 346⟩
theorem k175 : e175.Ok Tryz.prog := okT (l := []) okN (by kernel_rfl)
def e176 : E := ⟨191, #[(.slice (some ⟨11, 0, none⟩) 1 1), (.func (.func 192) #[] #[(.pointer (some ⟨341, 0, none⟩)), (.pointer (some ⟨342, 0, none⟩))])], [(342, ob54), (341, ob10), (11, ob1), (8, ob3)], 344, (.slice (some ⟨347, 0, none⟩) 1 1), (some [(347, ob1), (342, ob54), (341, ob10), (11, ob1), (8, ob3)]), 348⟩
theorem k176 : e176.Ok Tryz.prog := okT (l := [e175]) (okC k175 okN) (by kernel_rfl)
end Go.Proofs.YtmodghiokoiipaaGreat
