/-
  Known calls.
-/
import Derived.Test.YtmodghiokoiipaaGreatGb
namespace Go.Proofs.YtmodghiokoiipaaGreat
open Go Go.RowKit

def e0 : E := ⟨10, #[], [], 1, (.agg #[(.slice (some ⟨12, 0, none⟩) 4 4), (.slice (some ⟨10, 0, none⟩) 1 1), (.slice (some ⟨11, 0, none⟩) 1 1), (.slice none 0 0), (.slice none 0 0), (.slice none 0 0)]), (some [(12, ob0), (11, ob1), (10, ob2), (8, ob3), (6, ob4), (5, ob5), (4, ob6), (3, ob7), (2, ob8)]), 13⟩
theorem k0 : e0.Ok Tryz.prog := okT (l := []) okN (by kernel_rfl)
def e1 : E := ⟨11, #[], [], 13, (.agg #[(.int .i64 1), (.int .i64 1), (.int .i64 1), (.int .i64 1), (.string ⟨#[52, 57, 49, 49]⟩), (.string ⟨#[52, 57, 49, 50]⟩), (.int .i64 1000), (.int .i64 100), (.int .i64 0), (.bool false), (.int .i64 1), (.int .i64 1)]), none, 14⟩
theorem k1 : e1.Ok Tryz.prog := okT (l := []) okN (by kernel_rfl)
def e2 : E := ⟨50, #[(.agg #[(.slice none 0 0), (.slice none 0 0), (.slice none 0 0)])], [], 21, (.agg #[(.slice none 0 0), (.slice none 0 0), (.slice none 0 0)]), none, 24⟩
theorem k2 : e2.Ok Tryz.prog := okT (l := []) okN (by kernel_rfl)
def e3 : E := ⟨39, #[(.slice none 0 0)], [], 25, (.slice none 0 0), none, 25⟩
theorem k3 : e3.Ok Tryz.prog := okT (l := []) okN (by kernel_rfl)
def e4 : E := ⟨38, #[(.agg #[(.slice (some ⟨12, 0, none⟩) 4 4), (.slice (some ⟨10, 0, none⟩) 1 1), (.slice (some ⟨11, 0, none⟩) 1 1), (.slice none 0 0), (.slice none 0 0), (.slice none 0 0)]), (.agg #[(.slice none 0 0), (.slice none 0 0), (.slice none 0 0)]), (.slice none 0 0)], [(12, ob0), (11, ob1), (10, ob2), (8, ob3), (6, ob4), (5, ob5), (4, ob6), (3, ob7), (2, ob8)], 18, (.tuple #[(.agg #[(.slice none 0 0), (.slice none 0 0), (.slice none 0 0)]), (.slice none 0 0)]), none, 25⟩
theorem k4 : e4.Ok Tryz.prog := okT (l := [e2, e3]) (okC k2 (okC k3 okN)) (by kernel_rfl)
def e5 : E := ⟨24, #[(.agg #[(.slice (some ⟨12, 0, none⟩) 4 4), (.slice (some ⟨10, 0, none⟩) 1 1), (.slice (some ⟨11, 0, none⟩) 1 1), (.slice none 0 0), (.slice none 0 0), (.slice none 0 0)]), (.slice none 0 0)], [(12, ob0), (11, ob1), (10, ob2), (8, ob3), (6, ob4), (5, ob5), (4, ob6), (3, ob7), (2, ob8)], 16, (.tuple #[(.agg #[(.slice none 0 0), (.slice none 0 0), (.slice none 0 0)]), (.slice none 0 0)]), none, 25⟩
theorem k5 : e5.Ok Tryz.prog := okT (l := [e4]) (okC k4 okN) (by kernel_rfl)
def e6 : E := ⟨39, #[(.slice (some ⟨28, 0, none⟩) 1 1)], [(28, ob9)], 29, (.slice (some ⟨29, 0, none⟩) 1 1), (some [(29, ob9), (28, ob9)]), 30⟩
theorem k6 : e6.Ok Tryz.prog := okT (l := []) okN (by kernel_rfl)
def e7 : E := ⟨25, #[(.slice none 0 0), (.agg #[(.int .i64 1), (.int .i64 1), (.int .i64 1), (.int .i64 1), (.string ⟨#[52, 57, 49, 49]⟩), (.string ⟨#[52, 57, 49, 50]⟩), (.int .i64 1000), (.int .i64 100), (.int .i64 0), (.bool false), (.int .i64 1), (.int .i64 1)])], [], 26, (.slice (some ⟨29, 0, none⟩) 1 1), (some [(29, ob9)]), 30⟩
theorem k7 : e7.Ok Tryz.prog := okT (l := [e6]) (okC k6 okN) (by kernel_rfl)
def e8 : E := ⟨50, #[(.agg #[(.slice none 0 0), (.slice none 0 0), (.slice none 0 0)])], [], 36, (.agg #[(.slice none 0 0), (.slice none 0 0), (.slice none 0 0)]), none, 39⟩
theorem k8 : e8.Ok Tryz.prog := okT (l := []) okN (by kernel_rfl)
def e9 : E := ⟨39, #[(.slice (some ⟨29, 0, none⟩) 1 1)], [(29, ob9)], 40, (.slice (some ⟨40, 0, none⟩) 1 1), (some [(40, ob9), (29, ob9)]), 41⟩
theorem k9 : e9.Ok Tryz.prog := okT (l := []) okN (by kernel_rfl)
def e10 : E := ⟨182, #[(.agg #[(.int .i64 0), (.int .i64 0), (.int .i64 0), (.string ⟨#[]⟩), (.slice none 0 0), (.slice none 0 0), (.bool false), (.bool false)]), (.agg #[(.int .i64 0), (.int .i64 3), (.int .i64 1), (.int .i64 1), (.string ⟨#[]⟩), (.string ⟨#[98, 97, 115, 105, 99]⟩), (.int .i64 0)])], [], 54, (.agg #[(.int .i64 1), (.int .i64 1), (.int .i64 0), (.string ⟨#[98, 97, 115, 105, 99]⟩), (.slice none 0 0), (.slice none 0 0), (.bool false), (.bool false)]), none, 57⟩
theorem k10 : e10.Ok Tryz.prog := okT (l := []) okN (by kernel_rfl)
def e11 : E := ⟨207, #[(.slice none 0 0), (.string ⟨#[112, 97, 99, 107]⟩)], [], 63, (.slice (some ⟨64, 0, none⟩) 1 1), (some [(64, ob10)]), 65⟩
theorem k11 : e11.Ok Tryz.prog := okT (l := []) okN (by kernel_rfl)
def e12 : E := ⟨182, #[(.agg #[(.int .i64 1), (.int .i64 1), (.int .i64 0), (.string ⟨#[98, 97, 115, 105, 99]⟩), (.slice none 0 0), (.slice none 0 0), (.bool false), (.bool false)]), (.agg #[(.int .i64 0), (.int .i64 8), (.int .i64 0), (.int .i64 1), (.string ⟨#[]⟩), (.string ⟨#[112, 97, 99, 107]⟩), (.int .i64 0)])], [], 60, (.agg #[(.int .i64 1), (.int .i64 1), (.int .i64 0), (.string ⟨#[98, 97, 115, 105, 99]⟩), (.slice none 0 0), (.slice (some ⟨64, 0, none⟩) 1 1), (.bool false), (.bool false)]), (some [(64, ob10)]), 65⟩
theorem k12 : e12.Ok Tryz.prog := okT (l := [e11]) (okC k11 okN) (by kernel_rfl)
def e13 : E := ⟨133, #[(.slice (some ⟨12, 0, none⟩) 4 4), (.int .i64 1)], [(12, ob0)], 51, (.slice (some ⟨58, 0, none⟩) 1 1), (some [(64, ob10), (58, ob11), (12, ob0)]), 66⟩
theorem k13 : e13.Ok Tryz.prog := okT (l := [e10, e12]) (okC k10 (okC k12 okN)) (by kernel_rfl)
def e14 : E := ⟨132, #[(.slice (some ⟨58, 0, none⟩) 1 1), (.func (.func 134) #[] #[]), (.func (.func 136) #[] #[])], [(64, ob10), (58, ob11)], 66, (.slice (some ⟨68, 0, none⟩) 1 1), (some [(68, ob11), (64, ob10), (58, ob11)]), 69⟩
theorem k14 : e14.Ok Tryz.prog := okT (l := []) okN (by kernel_rfl)
def e15 : E := ⟨93, #[(.slice (some ⟨12, 0, none⟩) 4 4), (.int .i64 1)], [(12, ob0)], 51, (.slice (some ⟨73, 0, none⟩) 1 1), (some [(73, ob12), (71, ob10), (12, ob0)]), 74⟩
theorem k15 : e15.Ok Tryz.prog := okT (l := [e13, e14]) (okC k13 (okC k14 okN)) (by kernel_rfl)
def e16 : E := ⟨13, #[(.agg #[(.int .i64 0), (.int .i64 12622780800)])], [], 76, (.bool true), none, 77⟩
theorem k16 : e16.Ok Tryz.prog := okT (l := []) okN (by kernel_rfl)
def e17 : E := ⟨34, #[(.agg #[(.int .i64 0), (.int .i64 12622780800)]), (.int .i64 1000)], [], 75, (.bool true), none, 77⟩
theorem k17 : e17.Ok Tryz.prog := okT (l := [e16]) (okC k16 okN) (by kernel_rfl)
def e18 : E := ⟨77, #[(.slice (some ⟨12, 0, none⟩) 4 4), (.int .i64 1), (.int .i64 1000)], [(12, ob0)], 50, (.tuple #[(.agg #[(.int .i64 0), (.int .i64 12622780800), (.string ⟨#[98, 97, 115, 105, 99]⟩), (.slice (some ⟨71, 0, none⟩) 1 1), (.bool false), (.bool false)]), (.bool true)]), (some [(71, ob10), (12, ob0)]), 77⟩
theorem k18 : e18.Ok Tryz.prog := okT (l := [e15, e17]) (okC k15 (okC k17 okN)) (by kernel_rfl)
def e19 : E := ⟨137, #[], [], 80, (.pointer (some ⟨85, 0, none⟩)), (some [(85, ob13), (84, ob14), (83, ob14), (82, ob14), (81, ob14), (80, ob14)]), 86⟩
theorem k19 : e19.Ok Tryz.prog := okT (l := []) okN (by kernel_rfl)
def e20 : E := ⟨138, #[(.slice (some ⟨12, 0, none⟩) 4 4), (.int .i64 1000)], [(12, ob0)], 87, (.func (.func 183) #[] #[(.pointer (some ⟨87, 0, none⟩)), (.pointer (some ⟨88, 0, none⟩))]), (some [(88, ob15), (87, ob16), (12, ob0)]), 89⟩
theorem k20 : e20.Ok Tryz.prog := okT (l := []) okN (by kernel_rfl)
def e21 : E := ⟨184, #[(.slice none 0 0), (.int .i64 1)], [], 93, (.slice (some ⟨94, 0, none⟩) 1 1), (some [(94, ob17)]), 95⟩
theorem k21 : e21.Ok Tryz.prog := okT (l := []) okN (by kernel_rfl)
def e22 : E := ⟨139, #[(.pointer (some ⟨85, 0, none⟩)), (.agg #[(.int .i64 0), (.int .i64 1), (.int .i64 1), (.int .i64 0), (.string ⟨#[]⟩), (.string ⟨#[112, 114, 101, 112, 97, 105, 100]⟩), (.int .i64 1)])], [(85, ob13), (84, ob14), (83, ob14), (82, ob14), (81, ob14), (80, ob14)], 91, (.tuple #[]), (some [(94, ob17), (85, ob18), (84, ob14), (83, ob14), (82, ob14), (81, ob14), (80, ob19)]), 95⟩
theorem k22 : e22.Ok Tryz.prog := okT (l := [e21]) (okC k21 okN) (by kernel_rfl)
def e23 : E := ⟨184, #[(.slice none 0 0), (.int .i64 1)], [], 98, (.slice (some ⟨99, 0, none⟩) 1 1), (some [(99, ob17)]), 100⟩
theorem k23 : e23.Ok Tryz.prog := okT (l := []) okN (by kernel_rfl)
def e24 : E := ⟨139, #[(.pointer (some ⟨85, 0, none⟩)), (.agg #[(.int .i64 0), (.int .i64 3), (.int .i64 1), (.int .i64 1), (.string ⟨#[]⟩), (.string ⟨#[98, 97, 115, 105, 99]⟩), (.int .i64 0)])], [(94, ob17), (85, ob18), (84, ob14), (83, ob14), (82, ob14), (81, ob14), (80, ob19)], 97, (.tuple #[]), (some [(99, ob17), (94, ob17), (85, ob20), (84, ob21), (83, ob14), (82, ob22), (81, ob23), (80, ob19)]), 100⟩
theorem k24 : e24.Ok Tryz.prog := okT (l := [e23]) (okC k23 okN) (by kernel_rfl)
def e25 : E := ⟨209, #[(.slice none 0 0), (.string ⟨#[112, 97, 99, 107]⟩)], [], 107, (.slice (some ⟨108, 0, none⟩) 1 1), (some [(108, ob10)]), 109⟩
theorem k25 : e25.Ok Tryz.prog := okT (l := []) okN (by kernel_rfl)
def e26 : E := ⟨185, #[(.pointer (some ⟨85, 0, none⟩)), (.agg #[(.int .i64 1), (.int .i64 1), (.int .i64 0), (.string ⟨#[98, 97, 115, 105, 99]⟩), (.slice none 0 0), (.slice none 0 0), (.bool false), (.bool false)]), (.agg #[(.int .i64 0), (.int .i64 8), (.int .i64 0), (.int .i64 1), (.string ⟨#[]⟩), (.string ⟨#[112, 97, 99, 107]⟩), (.int .i64 0)])], [(99, ob17), (94, ob17), (85, ob20), (84, ob21), (83, ob14), (82, ob22), (81, ob23), (80, ob19)], 104, (.agg #[(.int .i64 1), (.int .i64 1), (.int .i64 0), (.string ⟨#[98, 97, 115, 105, 99]⟩), (.slice none 0 0), (.slice (some ⟨108, 0, none⟩) 1 1), (.bool false), (.bool false)]), (some [(108, ob10), (99, ob17), (94, ob17), (85, ob20), (84, ob21), (83, ob14), (82, ob22), (81, ob23), (80, ob19)]), 109⟩
theorem k26 : e26.Ok Tryz.prog := okT (l := [e25]) (okC k25 okN) (by kernel_rfl)
def e27 : E := ⟨139, #[(.pointer (some ⟨85, 0, none⟩)), (.agg #[(.int .i64 0), (.int .i64 8), (.int .i64 0), (.int .i64 1), (.string ⟨#[]⟩), (.string ⟨#[112, 97, 99, 107]⟩), (.int .i64 0)])], [(99, ob17), (94, ob17), (85, ob20), (84, ob21), (83, ob14), (82, ob22), (81, ob23), (80, ob19)], 102, (.tuple #[]), (some [(108, ob10), (99, ob17), (94, ob17), (85, ob20), (84, ob21), (83, ob14), (82, ob22), (81, ob24), (80, ob19)]), 109⟩
theorem k27 : e27.Ok Tryz.prog := okT (l := [e26]) (okC k26 okN) (by kernel_rfl)
def e28 : E := ⟨139, #[(.pointer (some ⟨85, 0, none⟩)), (.agg #[(.int .i64 0), (.int .i64 14), (.int .i64 1), (.int .i64 0), (.string ⟨#[]⟩), (.string ⟨#[]⟩), (.int .i64 700)])], [(108, ob10), (99, ob17), (94, ob17), (85, ob20), (84, ob21), (83, ob14), (82, ob22), (81, ob24), (80, ob19)], 111, (.tuple #[]), none, 112⟩
theorem k28 : e28.Ok Tryz.prog := okT (l := []) okN (by kernel_rfl)
def e29 : E := ⟨140, #[(.pointer (some ⟨85, 0, none⟩))], [(108, ob10), (99, ob17), (94, ob17), (85, ob20), (84, ob21), (83, ob14), (82, ob22), (81, ob24), (80, ob19)], 112, (.agg #[(.slice (some ⟨122, 0, none⟩) 1 1), (.slice (some ⟨119, 0, none⟩) 1 1)]), (some [(122, ob25), (119, ob26), (117, ob17), (108, ob10), (99, ob17), (94, ob17), (85, ob20), (84, ob21), (83, ob14), (82, ob22), (81, ob24), (80, ob19)]), 123⟩
theorem k29 : e29.Ok Tryz.prog := okT (l := []) okN (by kernel_rfl)
def e30 : E := ⟨94, #[(.slice (some ⟨12, 0, none⟩) 4 4), (.int .i64 1000)], [(12, ob0)], 79, (.agg #[(.slice (some ⟨122, 0, none⟩) 1 1), (.slice (some ⟨119, 0, none⟩) 1 1)]), (some [(122, ob25), (119, ob26), (117, ob17), (108, ob10), (12, ob0)]), 123⟩
theorem k30 : e30.Ok Tryz.prog := ok94 (l := [e19, e20, e22, e24, e27, e28, e29]) (okC k19 (okC k20 (okC k22 (okC k24 (okC k27 (okC k28 (okC k29 okN))))))) rfl (by kernel_rfl)
def e31 : E := ⟨78, #[(.slice (some ⟨12, 0, none⟩) 4 4), (.int .i64 1), (.int .i64 1000)], [(12, ob0)], 78, (.tuple #[(.agg #[(.int .i64 1), (.int .i64 1), (.int .i64 0), (.string ⟨#[98, 97, 115, 105, 99]⟩), (.slice none 0 0), (.slice (some ⟨108, 0, none⟩) 1 1), (.bool false), (.bool false)]), (.bool true)]), (some [(108, ob10), (12, ob0)]), 124⟩
theorem k31 : e31.Ok Tryz.prog := okT (l := [e30]) (okC k30 okN) (by kernel_rfl)
def e32 : E := ⟨137, #[], [], 127, (.pointer (some ⟨132, 0, none⟩)), (some [(132, ob27), (131, ob14), (130, ob14), (129, ob14), (128, ob14), (127, ob14)]), 133⟩
theorem k32 : e32.Ok Tryz.prog := okT (l := []) okN (by kernel_rfl)
def e33 : E := ⟨138, #[(.slice (some ⟨12, 0, none⟩) 4 4), (.int .i64 1000)], [(12, ob0)], 134, (.func (.func 183) #[] #[(.pointer (some ⟨134, 0, none⟩)), (.pointer (some ⟨135, 0, none⟩))]), (some [(135, ob15), (134, ob16), (12, ob0)]), 136⟩
theorem k33 : e33.Ok Tryz.prog := okT (l := []) okN (by kernel_rfl)
def e34 : E := ⟨184, #[(.slice none 0 0), (.int .i64 1)], [], 140, (.slice (some ⟨141, 0, none⟩) 1 1), (some [(141, ob17)]), 142⟩
theorem k34 : e34.Ok Tryz.prog := okT (l := []) okN (by kernel_rfl)
def e35 : E := ⟨139, #[(.pointer (some ⟨132, 0, none⟩)), (.agg #[(.int .i64 0), (.int .i64 1), (.int .i64 1), (.int .i64 0), (.string ⟨#[]⟩), (.string ⟨#[112, 114, 101, 112, 97, 105, 100]⟩), (.int .i64 1)])], [(132, ob27), (131, ob14), (130, ob14), (129, ob14), (128, ob14), (127, ob14)], 138, (.tuple #[]), (some [(141, ob17), (132, ob28), (131, ob14), (130, ob14), (129, ob14), (128, ob14), (127, ob19)]), 142⟩
theorem k35 : e35.Ok Tryz.prog := okT (l := [e34]) (okC k34 okN) (by kernel_rfl)
def e36 : E := ⟨184, #[(.slice none 0 0), (.int .i64 1)], [], 145, (.slice (some ⟨146, 0, none⟩) 1 1), (some [(146, ob17)]), 147⟩
theorem k36 : e36.Ok Tryz.prog := okT (l := []) okN (by kernel_rfl)
def e37 : E := ⟨139, #[(.pointer (some ⟨132, 0, none⟩)), (.agg #[(.int .i64 0), (.int .i64 3), (.int .i64 1), (.int .i64 1), (.string ⟨#[]⟩), (.string ⟨#[98, 97, 115, 105, 99]⟩), (.int .i64 0)])], [(141, ob17), (132, ob28), (131, ob14), (130, ob14), (129, ob14), (128, ob14), (127, ob19)], 144, (.tuple #[]), (some [(146, ob17), (141, ob17), (132, ob29), (131, ob21), (130, ob14), (129, ob22), (128, ob23), (127, ob19)]), 147⟩
theorem k37 : e37.Ok Tryz.prog := okT (l := [e36]) (okC k36 okN) (by kernel_rfl)
def e38 : E := ⟨209, #[(.slice none 0 0), (.string ⟨#[112, 97, 99, 107]⟩)], [], 154, (.slice (some ⟨155, 0, none⟩) 1 1), (some [(155, ob10)]), 156⟩
theorem k38 : e38.Ok Tryz.prog := okT (l := []) okN (by kernel_rfl)
def e39 : E := ⟨185, #[(.pointer (some ⟨132, 0, none⟩)), (.agg #[(.int .i64 1), (.int .i64 1), (.int .i64 0), (.string ⟨#[98, 97, 115, 105, 99]⟩), (.slice none 0 0), (.slice none 0 0), (.bool false), (.bool false)]), (.agg #[(.int .i64 0), (.int .i64 8), (.int .i64 0), (.int .i64 1), (.string ⟨#[]⟩), (.string ⟨#[112, 97, 99, 107]⟩), (.int .i64 0)])], [(146, ob17), (141, ob17), (132, ob29), (131, ob21), (130, ob14), (129, ob22), (128, ob23), (127, ob19)], 151, (.agg #[(.int .i64 1), (.int .i64 1), (.int .i64 0), (.string ⟨#[98, 97, 115, 105, 99]⟩), (.slice none 0 0), (.slice (some ⟨155, 0, none⟩) 1 1), (.bool false), (.bool false)]), (some [(155, ob10), (146, ob17), (141, ob17), (132, ob29), (131, ob21), (130, ob14), (129, ob22), (128, ob23), (127, ob19)]), 156⟩
theorem k39 : e39.Ok Tryz.prog := okT (l := [e38]) (okC k38 okN) (by kernel_rfl)
def e40 : E := ⟨139, #[(.pointer (some ⟨132, 0, none⟩)), (.agg #[(.int .i64 0), (.int .i64 8), (.int .i64 0), (.int .i64 1), (.string ⟨#[]⟩), (.string ⟨#[112, 97, 99, 107]⟩), (.int .i64 0)])], [(146, ob17), (141, ob17), (132, ob29), (131, ob21), (130, ob14), (129, ob22), (128, ob23), (127, ob19)], 149, (.tuple #[]), (some [(155, ob10), (146, ob17), (141, ob17), (132, ob29), (131, ob21), (130, ob14), (129, ob22), (128, ob30), (127, ob19)]), 156⟩
theorem k40 : e40.Ok Tryz.prog := okT (l := [e39]) (okC k39 okN) (by kernel_rfl)
def e41 : E := ⟨139, #[(.pointer (some ⟨132, 0, none⟩)), (.agg #[(.int .i64 0), (.int .i64 14), (.int .i64 1), (.int .i64 0), (.string ⟨#[]⟩), (.string ⟨#[]⟩), (.int .i64 700)])], [(155, ob10), (146, ob17), (141, ob17), (132, ob29), (131, ob21), (130, ob14), (129, ob22), (128, ob30), (127, ob19)], 158, (.tuple #[]), none, 159⟩
theorem k41 : e41.Ok Tryz.prog := okT (l := []) okN (by kernel_rfl)
def e42 : E := ⟨140, #[(.pointer (some ⟨132, 0, none⟩))], [(155, ob10), (146, ob17), (141, ob17), (132, ob29), (131, ob21), (130, ob14), (129, ob22), (128, ob30), (127, ob19)], 159, (.agg #[(.slice (some ⟨169, 0, none⟩) 1 1), (.slice (some ⟨166, 0, none⟩) 1 1)]), (some [(169, ob31), (166, ob32), (164, ob17), (155, ob10), (146, ob17), (141, ob17), (132, ob29), (131, ob21), (130, ob14), (129, ob22), (128, ob30), (127, ob19)]), 170⟩
theorem k42 : e42.Ok Tryz.prog := okT (l := []) okN (by kernel_rfl)
def e43 : E := ⟨94, #[(.slice (some ⟨12, 0, none⟩) 4 4), (.int .i64 1000)], [(12, ob0)], 126, (.agg #[(.slice (some ⟨169, 0, none⟩) 1 1), (.slice (some ⟨166, 0, none⟩) 1 1)]), (some [(169, ob31), (166, ob32), (164, ob17), (155, ob10), (12, ob0)]), 170⟩
theorem k43 : e43.Ok Tryz.prog := ok94 (l := [e32, e33, e35, e37, e40, e41, e42]) (okC k32 (okC k33 (okC k35 (okC k37 (okC k40 (okC k41 (okC k42 okN))))))) rfl (by kernel_rfl)
def e44 : E := ⟨79, #[(.slice (some ⟨12, 0, none⟩) 4 4), (.int .i64 1), (.int .i64 1000)], [(12, ob0)], 125, (.tuple #[(.agg #[(.int .i64 1), (.int .i64 0), (.int .i64 1), (.bool true), (.bool false), (.slice (some ⟨164, 0, none⟩) 1 1)]), (.bool true)]), (some [(164, ob17), (12, ob0)]), 171⟩
theorem k44 : e44.Ok Tryz.prog := okT (l := [e43]) (okC k43 okN) (by kernel_rfl)
def e45 : E := ⟨63, #[(.pointer (some ⟨47, 0, none⟩))], [(47, ob34), (12, ob0), (11, ob1), (10, ob2), (8, ob3), (6, ob4), (5, ob5), (4, ob6), (3, ob7), (2, ob8)], 50, (.int .i64 0), (some [(164, ob17), (71, ob10), (47, ob33), (12, ob0), (11, ob1), (10, ob2), (8, ob3), (6, ob4), (5, ob5), (4, ob6), (3, ob7), (2, ob8)]), 171⟩
theorem k45 : e45.Ok Tryz.prog := okT (l := [e18, e31, e44]) (okC k18 (okC k31 (okC k44 okN))) (by kernel_rfl)
def e46 : E := ⟨62, #[(.pointer (some ⟨48, 0, none⟩))], [(48, ob35), (47, ob34), (12, ob0), (11, ob1), (10, ob2), (8, ob3), (6, ob4), (5, ob5), (4, ob6), (3, ob7), (2, ob8)], 50, (.int .i64 0), (some [(164, ob17), (71, ob10), (48, ob35), (47, ob33), (12, ob0), (11, ob1), (10, ob2), (8, ob3), (6, ob4), (5, ob5), (4, ob6), (3, ob7), (2, ob8)]), 171⟩
theorem k46 : e46.Ok Tryz.prog := okT (l := [e45]) (okC k45 okN) (by kernel_rfl)
def e47 : E := ⟨61, #[(.func (.func 62) #[] #[(.pointer (some ⟨48, 0, none⟩))]), (.pointer (some ⟨49, 0, none⟩))], [(49, ob36), (48, ob35), (47, ob34), (12, ob0), (11, ob1), (10, ob2), (8, ob3), (6, ob4), (5, ob5), (4, ob6), (3, ob7), (2, ob8)], 50, (.tuple #[]), (some [(164, ob17), (71, ob10), (49, ob36), (48, ob35), (47, ob33), (12, ob0), (11, ob1), (10, ob2), (8, ob3), (6, ob4), (5, ob5), (4, ob6), (3, ob7), (2, ob8)]), 171⟩
theorem k47 : e47.Ok Tryz.prog := okT (l := [e46]) (okC k46 okN) (by kernel_rfl)
def e48 : E := ⟨141, #[(.slice (some ⟨2, 0, none⟩) 1 1)], [(2, ob8)], 177, (.slice (some ⟨177, 0, none⟩) 1 1), (some [(177, ob8), (2, ob8)]), 178⟩
theorem k48 : e48.Ok Tryz.prog := okT (l := []) okN (by kernel_rfl)
def e49 : E := ⟨142, #[(.slice none 0 0)], [], 181, (.slice none 0 0), none, 181⟩
theorem k49 : e49.Ok Tryz.prog := okT (l := []) okN (by kernel_rfl)
def e50 : E := ⟨143, #[(.slice (some ⟨5, 0, none⟩) 1 1)], [(5, ob5)], 184, (.slice (some ⟨184, 0, none⟩) 1 1), (some [(184, ob5), (5, ob5)]), 185⟩
theorem k50 : e50.Ok Tryz.prog := okT (l := []) okN (by kernel_rfl)
def e51 : E := ⟨95, #[(.agg #[(.string ⟨#[98, 97, 115, 105, 99]⟩), (.int .i64 0), (.bool false), (.slice (some ⟨3, 0, none⟩) 1 1), (.slice (some ⟨4, 0, none⟩) 1 1), (.slice (some ⟨6, 0, none⟩) 1 1), (.slice none 0 0)])], [(6, ob4), (5, ob5), (4, ob6), (3, ob7), (2, ob8)], 173, (.agg #[(.string ⟨#[98, 97, 115, 105, 99]⟩), (.int .i64 0), (.bool false), (.slice (some ⟨179, 0, none⟩) 1 1), (.slice (some ⟨182, 0, none⟩) 1 1), (.slice (some ⟨186, 0, none⟩) 1 1), (.slice none 0 0)]), (some [(186, ob37), (184, ob5), (182, ob6), (179, ob38), (177, ob8), (6, ob4), (5, ob5), (4, ob6), (3, ob7), (2, ob8)]), 187⟩
theorem k51 : e51.Ok Tryz.prog := okT (l := [e48, e49, e50]) (okC k48 (okC k49 (okC k50 okN))) (by kernel_rfl)
def e52 : E := ⟨80, #[(.slice (some ⟨10, 0, none⟩) 1 1), (.string ⟨#[98, 97, 115, 105, 99]⟩), (.int .i64 1000)], [(10, ob2), (6, ob4), (5, ob5), (4, ob6), (3, ob7), (2, ob8)], 171, (.tuple #[(.agg #[(.string ⟨#[98, 97, 115, 105, 99]⟩), (.int .i64 0), (.bool false), (.slice (some ⟨179, 0, none⟩) 1 1), (.slice (some ⟨182, 0, none⟩) 1 1), (.slice (some ⟨186, 0, none⟩) 1 1), (.slice none 0 0)]), (.bool true)]), (some [(186, ob37), (184, ob5), (182, ob6), (179, ob38), (177, ob8), (10, ob2), (6, ob4), (5, ob5), (4, ob6), (3, ob7), (2, ob8)]), 187⟩
theorem k52 : e52.Ok Tryz.prog := okT (l := [e51]) (okC k51 okN) (by kernel_rfl)
def e53 : E := ⟨145, #[(.string ⟨#[104, 111, 109, 101]⟩)], [], 190, (.bool true), none, 190⟩
theorem k53 : e53.Ok Tryz.prog := okT (l := []) okN (by kernel_rfl)
def e54 : E := ⟨186, #[(.slice (some ⟨179, 0, none⟩) 0 1), (.func (.func 147) #[] #[(.pointer (some ⟨189, 0, none⟩))])], [(189, ob38), (179, ob38), (177, ob8)], 190, (.int .i64 (-1)), none, 190⟩
theorem k54 : e54.Ok Tryz.prog := okT (l := []) okN (by kernel_rfl)
def e55 : E := ⟨146, #[(.slice (some ⟨179, 0, none⟩) 0 1), (.func (.func 147) #[] #[(.pointer (some ⟨189, 0, none⟩))])], [(189, ob38), (179, ob38), (177, ob8)], 190, (.bool false), none, 190⟩
theorem k55 : e55.Ok Tryz.prog := okT (l := [e54]) (okC k54 okN) (by kernel_rfl)
def e56 : E := ⟨148, #[(.int .u8 52)], [], 190, (.bool true), none, 190⟩
theorem k56 : e56.Ok Tryz.prog := okT (l := []) okN (by kernel_rfl)
def e57 : E := ⟨148, #[(.int .u8 57)], [], 190, (.bool true), none, 190⟩
theorem k57 : e57.Ok Tryz.prog := okT (l := []) okN (by kernel_rfl)
def e58 : E := ⟨97, #[(.string ⟨#[52, 57]⟩)], [], 190, (.bool true), none, 190⟩
theorem k58 : e58.Ok Tryz.prog := okT (l := [e56, e57]) (okC k56 (okC k57 okN)) (by kernel_rfl)
def e59 : E := ⟨96, #[(.slice (some ⟨179, 0, none⟩) 1 1)], [(179, ob38), (177, ob8)], 188, (.tuple #[(.map (some 188)), (.int .i64 0)]), (some [(188, ob39), (179, ob38), (177, ob8)]), 190⟩
theorem k59 : e59.Ok Tryz.prog := okT (l := [e53, e55, e58]) (okC k53 (okC k55 (okC k58 okN))) (by kernel_rfl)
def e60 : E := ⟨148, #[(.int .u8 49)], [], 190, (.bool true), none, 190⟩
theorem k60 : e60.Ok Tryz.prog := okT (l := []) okN (by kernel_rfl)
def e61 : E := ⟨148, #[(.int .u8 50)], [], 190, (.bool true), none, 190⟩
theorem k61 : e61.Ok Tryz.prog := okT (l := []) okN (by kernel_rfl)
def e62 : E := ⟨97, #[(.string ⟨#[52, 57, 49, 50]⟩)], [], 190, (.bool true), none, 190⟩
theorem k62 : e62.Ok Tryz.prog := okT (l := [e56, e57, e60, e61]) (okC k56 (okC k57 (okC k60 (okC k61 okN)))) (by kernel_rfl)
def e63 : E := ⟨98, #[(.map (some 188)), (.string ⟨#[52, 57, 49, 50]⟩), (.int .i64 4)], [(188, ob39)], 190, (.tuple #[(.string ⟨#[104, 111, 109, 101]⟩), (.bool true)]), none, 190⟩
theorem k63 : e63.Ok Tryz.prog := okT (l := []) okN (by kernel_rfl)
def e64 : E := ⟨81, #[(.slice (some ⟨179, 0, none⟩) 1 1), (.string ⟨#[52, 57, 49, 50]⟩)], [(179, ob38), (177, ob8)], 188, (.tuple #[(.string ⟨#[104, 111, 109, 101]⟩), (.bool true)]), none, 190⟩
theorem k64 : e64.Ok Tryz.prog := okT (l := [e59, e62, e63]) (okC k59 (okC k62 (okC k63 okN))) (by kernel_rfl)
def e65 : E := ⟨65, #[(.pointer (some ⟨47, 0, none⟩))], [(164, ob17), (71, ob10), (47, ob33), (12, ob0), (11, ob1), (10, ob2), (8, ob3), (6, ob4), (5, ob5), (4, ob6), (3, ob7), (2, ob8)], 171, (.int .i64 0), (some [(186, ob37), (184, ob5), (182, ob6), (179, ob38), (177, ob8), (164, ob17), (71, ob10), (47, ob40), (12, ob0), (11, ob1), (10, ob2), (8, ob3), (6, ob4), (5, ob5), (4, ob6), (3, ob7), (2, ob8)]), 190⟩
theorem k65 : e65.Ok Tryz.prog := okT (l := [e52, e64]) (okC k52 (okC k64 okN)) (by kernel_rfl)
def e66 : E := ⟨64, #[(.pointer (some ⟨48, 0, none⟩))], [(164, ob17), (71, ob10), (48, ob35), (47, ob33), (12, ob0), (11, ob1), (10, ob2), (8, ob3), (6, ob4), (5, ob5), (4, ob6), (3, ob7), (2, ob8)], 171, (.int .i64 0), (some [(186, ob37), (184, ob5), (182, ob6), (179, ob38), (177, ob8), (164, ob17), (71, ob10), (48, ob35), (47, ob40), (12, ob0), (11, ob1), (10, ob2), (8, ob3), (6, ob4), (5, ob5), (4, ob6), (3, ob7), (2, ob8)]), 190⟩
theorem k66 : e66.Ok Tryz.prog := okT (l := [e65]) (okC k65 okN) (by kernel_rfl)
def e67 : E := ⟨61, #[(.func (.func 64) #[] #[(.pointer (some ⟨48, 0, none⟩))]), (.pointer (some ⟨49, 0, none⟩))], [(164, ob17), (71, ob10), (49, ob36), (48, ob35), (47, ob33), (12, ob0), (11, ob1), (10, ob2), (8, ob3), (6, ob4), (5, ob5), (4, ob6), (3, ob7), (2, ob8)], 171, (.tuple #[]), (some [(186, ob37), (184, ob5), (182, ob6), (179, ob38), (177, ob8), (164, ob17), (71, ob10), (49, ob36), (48, ob35), (47, ob40), (12, ob0), (11, ob1), (10, ob2), (8, ob3), (6, ob4), (5, ob5), (4, ob6), (3, ob7), (2, ob8)]), 190⟩
theorem k67 : e67.Ok Tryz.prog := okT (l := [e66]) (okC k66 okN) (by kernel_rfl)
def e68 : E := ⟨149, #[(.slice none 0 0)], [], 194, (.slice none 0 0), none, 194⟩
theorem k68 : e68.Ok Tryz.prog := okT (l := []) okN (by kernel_rfl)
def e69 : E := ⟨99, #[(.agg #[(.slice none 0 0), (.slice none 0 0), (.slice none 0 0)])], [], 192, (.agg #[(.slice none 0 0), (.slice none 0 0), (.slice none 0 0)]), none, 194⟩
theorem k69 : e69.Ok Tryz.prog := okT (l := [e68]) (okC k68 okN) (by kernel_rfl)
def e70 : E := ⟨100, #[(.slice (some ⟨12, 0, none⟩) 4 4), (.int .i64 1), (.int .i64 1000)], [(12, ob0)], 195, (.bool true), none, 196⟩
theorem k70 : e70.Ok Tryz.prog := okT (l := []) okN (by kernel_rfl)
def e71 : E := ⟨125, #[(.slice none 0 0)], [], 196, (.map (some 196)), (some [(196, ob14)]), 197⟩
theorem k71 : e71.Ok Tryz.prog := okT (l := []) okN (by kernel_rfl)
def e72 : E := ⟨101, #[(.slice none 0 0), (.int .i64 1)], [], 196, (.tuple #[(.slice (some ⟨198, 0, none⟩) 1 1), (.int .i64 0)]), (some [(198, ob41)]), 199⟩
theorem k72 : e72.Ok Tryz.prog := okT (l := [e71]) (okC k71 okN) (by kernel_rfl)
def e73 : E := ⟨152, #[(.int .i64 1), (.int .i64 1), (.int .i64 9999)], [], 207, (.bool true), none, 207⟩
theorem k73 : e73.Ok Tryz.prog := okT (l := []) okN (by kernel_rfl)
def e74 : E := ⟨19, #[(.int .i64 0)], [], 207, (.bool true), none, 207⟩
theorem k74 : e74.Ok Tryz.prog := okT (l := []) okN (by kernel_rfl)
def e75 : E := ⟨152, #[(.int .i64 0), (.int .i64 (-1125899906842624)), (.int .i64 0)], [], 207, (.bool true), none, 207⟩
theorem k75 : e75.Ok Tryz.prog := okT (l := []) okN (by kernel_rfl)
def e76 : E := ⟨152, #[(.int .i64 0), (.int .i64 0), (.int .i64 1125899906842624)], [], 207, (.bool true), none, 207⟩
theorem k76 : e76.Ok Tryz.prog := okT (l := []) okN (by kernel_rfl)
def e77 : E := ⟨152, #[(.int .i64 (-1)), (.int .i64 (-1)), (.int .i64 12622780799)], [], 207, (.bool true), none, 207⟩
theorem k77 : e77.Ok Tryz.prog := okT (l := []) okN (by kernel_rfl)
def e78 : E := ⟨150, #[(.agg #[(.int .i64 1), (.int .i64 0), (.int .i64 0), (.int .i64 0), (.int .i64 (-1))])], [], 206, (.int .i64 0), none, 207⟩
theorem k78 : e78.Ok Tryz.prog := okT (l := [e73, e74, e75, e76, e77]) (okC k73 (okC k74 (okC k75 (okC k76 (okC k77 okN))))) (by kernel_rfl)
def e79 : E := ⟨152, #[(.int .i64 700), (.int .i64 0), (.int .i64 1125899906842624)], [], 207, (.bool true), none, 207⟩
theorem k79 : e79.Ok Tryz.prog := okT (l := []) okN (by kernel_rfl)
def e80 : E := ⟨19, #[(.int .i64 700)], [], 207, (.bool true), none, 207⟩
theorem k80 : e80.Ok Tryz.prog := okT (l := []) okN (by kernel_rfl)
def e81 : E := ⟨103, #[(.agg #[(.int .i64 1), (.int .i64 0), (.int .i64 0), (.int .i64 0), (.int .i64 (-1))]), (.int .i64 700)], [], 204, (.tuple #[(.agg #[(.int .i64 1), (.int .i64 700), (.int .i64 0), (.int .i64 0), (.int .i64 (-1))]), (.int .i64 0)]), none, 207⟩
theorem k81 : e81.Ok Tryz.prog := okT (l := [e78, e79, e80]) (okC k78 (okC k79 (okC k80 okN))) (by kernel_rfl)
def e82 : E := ⟨102, #[(.agg #[(.int .i64 1), (.int .i64 700), (.int .i64 0), (.int .i64 0), (.int .i64 (-1))]), (.int .i64 0), (.pointer (some ⟨199, 0, none⟩))], [(199, ob41)], 207, (.tuple #[]), (some [(199, ob42)]), 208⟩
theorem k82 : e82.Ok Tryz.prog := okT (l := []) okN (by kernel_rfl)
def e83 : E := ⟨82, #[(.slice (some ⟨12, 0, none⟩) 4 4), (.agg #[(.slice none 0 0), (.slice none 0 0), (.slice none 0 0)]), (.int .i64 1), (.int .i64 1000)], [(12, ob0)], 190, (.agg #[(.slice none 0 0), (.slice (some ⟨198, 0, none⟩) 1 1), (.slice none 0 0)]), (some [(198, ob43), (12, ob0)]), 208⟩
theorem k83 : e83.Ok Tryz.prog := okT (l := [e69, e70, e72, e81, e82]) (okC k69 (okC k70 (okC k72 (okC k81 (okC k82 okN))))) (by kernel_rfl)
def e84 : E := ⟨107, #[(.slice (some ⟨12, 0, none⟩) 4 4), (.int .i64 1)], [(12, ob0)], 215, (.int .i64 1), none, 216⟩
theorem k84 : e84.Ok Tryz.prog := okT (l := []) okN (by kernel_rfl)
def e85 : E := ⟨182, #[(.agg #[(.int .i64 0), (.int .i64 0), (.int .i64 0), (.string ⟨#[]⟩), (.slice none 0 0), (.slice none 0 0), (.bool false), (.bool false)]), (.agg #[(.int .i64 0), (.int .i64 3), (.int .i64 1), (.int .i64 1), (.string ⟨#[]⟩), (.string ⟨#[98, 97, 115, 105, 99]⟩), (.int .i64 0)])], [], 226, (.agg #[(.int .i64 1), (.int .i64 1), (.int .i64 0), (.string ⟨#[98, 97, 115, 105, 99]⟩), (.slice none 0 0), (.slice none 0 0), (.bool false), (.bool false)]), none, 229⟩
theorem k85 : e85.Ok Tryz.prog := okT (l := []) okN (by kernel_rfl)
def e86 : E := ⟨207, #[(.slice none 0 0), (.string ⟨#[112, 97, 99, 107]⟩)], [], 235, (.slice (some ⟨236, 0, none⟩) 1 1), (some [(236, ob10)]), 237⟩
theorem k86 : e86.Ok Tryz.prog := okT (l := []) okN (by kernel_rfl)
def e87 : E := ⟨182, #[(.agg #[(.int .i64 1), (.int .i64 1), (.int .i64 0), (.string ⟨#[98, 97, 115, 105, 99]⟩), (.slice none 0 0), (.slice none 0 0), (.bool false), (.bool false)]), (.agg #[(.int .i64 0), (.int .i64 8), (.int .i64 0), (.int .i64 1), (.string ⟨#[]⟩), (.string ⟨#[112, 97, 99, 107]⟩), (.int .i64 0)])], [], 232, (.agg #[(.int .i64 1), (.int .i64 1), (.int .i64 0), (.string ⟨#[98, 97, 115, 105, 99]⟩), (.slice none 0 0), (.slice (some ⟨236, 0, none⟩) 1 1), (.bool false), (.bool false)]), (some [(236, ob10)]), 237⟩
theorem k87 : e87.Ok Tryz.prog := okT (l := [e86]) (okC k86 okN) (by kernel_rfl)
end Go.Proofs.YtmodghiokoiipaaGreat
