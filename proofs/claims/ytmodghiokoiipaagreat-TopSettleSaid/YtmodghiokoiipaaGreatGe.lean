/-
  Known calls.
-/
import Derived.Test.YtmodghiokoiipaaGreatGd
namespace Go.Proofs.YtmodghiokoiipaaGreat
open Go Go.RowKit

def e177 : E := ⟨193, #[(.agg #[(.string ⟨#[112, 97, 99, 107]⟩), (.int .i64 0), (.int .i64 0), (.string ⟨#[102, 101, 101]⟩), (.bool false), (.slice (some ⟨8, 0, none⟩) 1 1)])], [(8, ob3)], 348, (.agg #[(.string ⟨#[112, 97, 99, 107]⟩), (.int .i64 0), (.int .i64 0), (.string ⟨#[102, 101, 101]⟩), (.bool false), (.slice (some ⟨352, 0, none⟩) 1 1)]), (some [(352, ob3), (8, ob3)]), 353⟩
theorem k177 : e177.Ok Tryz.prog := okT (l := []) okN (by kernel_rfl)
def e178 : E := ⟨158, #[(.slice (some ⟨11, 0, none⟩) 1 1), (.string ⟨#[112, 97, 99, 107]⟩), (.int .i64 0)], [(11, ob1), (8, ob3)], 341, (.tuple #[(.agg #[(.string ⟨#[112, 97, 99, 107]⟩), (.int .i64 0), (.int .i64 0), (.string ⟨#[102, 101, 101]⟩), (.bool false), (.slice (some ⟨352, 0, none⟩) 1 1)]), (.bool true)]), (some [(352, ob3), (11, ob1), (8, ob3)]), 353⟩
theorem k178 : e178.Ok Tryz.prog := okT (l := [e176, e177]) (okC k176 (okC k177 okN)) (by kernel_rfl)
def e179 : E := ⟨110, #[(.agg #[(.int .i64 1), (.int .i64 1), (.string ⟨#[112, 97, 99, 107]⟩), (.slice (some ⟨252, 0, none⟩) 1 1)]), (.slice (some ⟨11, 0, none⟩) 1 1), (.agg #[(.int .i64 0), (.int .i64 2678400)])], [(252, ob46), (11, ob1), (8, ob3)], 331, (.slice (some ⟨357, 0, none⟩) 1 1), (some [(357, ob55), (252, ob46), (11, ob1), (8, ob3)]), 358⟩
theorem k179 : e179.Ok Tryz.prog := okT (l := [e174, e178]) (okC k174 (okC k178 okN)) (by kernel_rfl)
def e180 : E := ⟨106, #[(.agg #[(.int .i64 1), (.int .i64 1), (.string ⟨#[112, 97, 99, 107]⟩), (.int .i64 0), (.int .i64 1), (.slice none 0 0), (.int .i64 0), (.int .i64 2678400), (.int .i64 30), (.int .i64 30), (.int .i64 0), (.bool false)])], [], 360, (.agg #[(.int .i64 1), (.string ⟨#[112, 97, 99, 107]⟩), (.int .i64 0), (.int .i64 0)]), none, 362⟩
theorem k180 : e180.Ok Tryz.prog := okT (l := []) okN (by kernel_rfl)
def e181 : E := ⟨105, #[(.agg #[(.int .i64 1), (.int .i64 1), (.string ⟨#[112, 97, 99, 107]⟩), (.int .i64 0), (.int .i64 1), (.slice none 0 0), (.int .i64 0), (.int .i64 2678400), (.int .i64 30), (.int .i64 30), (.int .i64 0), (.bool false)])], [], 362, (.agg #[(.int .i64 1), (.int .i64 1), (.string ⟨#[112, 97, 99, 107]⟩), (.int .i64 0), (.int .i64 1), (.slice none 0 0), (.int .i64 0), (.int .i64 2678400), (.int .i64 30), (.int .i64 30), (.int .i64 0), (.bool false)]), none, 364⟩
theorem k181 : e181.Ok Tryz.prog := okT (l := []) okN (by kernel_rfl)
def e182 : E := ⟨106, #[(.agg #[(.int .i64 1), (.int .i64 1), (.string ⟨#[112, 97, 99, 107]⟩), (.int .i64 0), (.int .i64 1), (.slice none 0 0), (.int .i64 0), (.int .i64 2678400), (.int .i64 30), (.int .i64 30), (.int .i64 0), (.bool false)])], [], 367, (.agg #[(.int .i64 1), (.string ⟨#[112, 97, 99, 107]⟩), (.int .i64 0), (.int .i64 0)]), none, 369⟩
theorem k182 : e182.Ok Tryz.prog := okT (l := []) okN (by kernel_rfl)
def e183 : E := ⟨111, #[(.pointer (some ⟨212, 0, none⟩)), (.agg #[(.int .i64 1), (.int .i64 1), (.string ⟨#[112, 97, 99, 107]⟩), (.int .i64 0), (.int .i64 1), (.slice none 0 0), (.int .i64 0), (.int .i64 2678400), (.int .i64 30), (.int .i64 30), (.int .i64 0), (.bool false), (.int .i64 0)])], [(212, ob59), (211, ob14)], 359, (.tuple #[]), (some [(366, ob56), (212, ob57), (211, ob58)]), 369⟩
theorem k183 : e183.Ok Tryz.prog := okT (l := [e180, e181, e182]) (okC k180 (okC k181 (okC k182 okN))) (by kernel_rfl)
def e184 : E := ⟨83, #[(.slice (some ⟨12, 0, none⟩) 4 4), (.slice (some ⟨11, 0, none⟩) 1 1), (.agg #[(.slice none 0 0), (.slice (some ⟨198, 0, none⟩) 1 1), (.slice none 0 0)]), (.int .i64 1), (.int .i64 1000)], [(198, ob43), (12, ob0), (11, ob1), (8, ob3)], 209, (.agg #[(.slice (some ⟨366, 0, none⟩) 1 1), (.slice (some ⟨213, 0, none⟩) 1 1), (.slice none 0 0)]), (some [(366, ob56), (213, ob43), (198, ob43), (12, ob0), (11, ob1), (8, ob3)]), 369⟩
theorem k184 : e184.Ok Tryz.prog := okT (l := [e84, e95, e171, e179, e183]) (okC k84 (okC k95 (okC k171 (okC k179 (okC k183 okN))))) (by kernel_rfl)
def e185 : E := ⟨149, #[(.slice (some ⟨366, 0, none⟩) 1 1)], [(366, ob56)], 374, (.slice (some ⟨376, 0, none⟩) 1 1), (some [(376, ob56), (366, ob56)]), 377⟩
theorem k185 : e185.Ok Tryz.prog := okT (l := []) okN (by kernel_rfl)
def e186 : E := ⟨99, #[(.agg #[(.slice (some ⟨366, 0, none⟩) 1 1), (.slice (some ⟨213, 0, none⟩) 1 1), (.slice none 0 0)])], [(366, ob56), (213, ob43)], 372, (.agg #[(.slice (some ⟨376, 0, none⟩) 1 1), (.slice (some ⟨377, 0, none⟩) 1 1), (.slice none 0 0)]), (some [(377, ob43), (376, ob56), (366, ob56), (213, ob43)]), 378⟩
theorem k186 : e186.Ok Tryz.prog := okT (l := [e185]) (okC k185 okN) (by kernel_rfl)
def e187 : E := ⟨194, #[(.agg #[(.int .i64 1), (.int .i64 1), (.string ⟨#[112, 97, 99, 107]⟩), (.int .i64 0), (.int .i64 1), (.slice none 0 0), (.int .i64 0), (.int .i64 2678400), (.int .i64 30), (.int .i64 30), (.int .i64 0), (.bool false)])], [], 380, (.agg #[(.int .i64 1), (.int .i64 1), (.string ⟨#[112, 97, 99, 107]⟩), (.int .i64 0), (.int .i64 1), (.slice none 0 0), (.int .i64 0), (.int .i64 2678400), (.int .i64 30), (.int .i64 30), (.int .i64 0), (.bool false)]), none, 382⟩
theorem k187 : e187.Ok Tryz.prog := okT (l := []) okN (by kernel_rfl)
def e188 : E := ⟨162, #[(.slice (some ⟨366, 0, none⟩) 1 1)], [(366, ob56)], 379, (.slice (some ⟨383, 0, none⟩) 1 1), (some [(383, ob56), (366, ob56)]), 384⟩
theorem k188 : e188.Ok Tryz.prog := okT (l := [e187]) (okC k187 okN) (by kernel_rfl)
def e189 : E := ⟨163, #[(.slice (some ⟨366, 0, none⟩) 1 1), (.int .i64 0), (.int .i64 1)], [(366, ob56)], 384, (.slice (some ⟨385, 0, none⟩) 1 1), (some [(385, ob54), (366, ob56)]), 386⟩
theorem k189 : e189.Ok Tryz.prog := okT (l := []) okN (by kernel_rfl)
def e190 : E := ⟨13, #[(.agg #[(.int .i64 0), (.int .i64 2678400)])], [], 388, (.bool true), none, 389⟩
theorem k190 : e190.Ok Tryz.prog := okT (l := []) okN (by kernel_rfl)
def e191 : E := ⟨34, #[(.agg #[(.int .i64 0), (.int .i64 2678400)]), (.int .i64 1000)], [], 387, (.bool true), none, 389⟩
theorem k191 : e191.Ok Tryz.prog := okT (l := [e190]) (okC k190 okN) (by kernel_rfl)
def e192 : E := ⟨164, #[(.agg #[(.int .i64 1), (.int .i64 1), (.string ⟨#[112, 97, 99, 107]⟩), (.int .i64 0), (.int .i64 1), (.slice none 0 0), (.int .i64 0), (.int .i64 2678400), (.int .i64 30), (.int .i64 30), (.int .i64 0), (.bool false)]), (.int .i64 1), (.int .i64 1), (.int .i64 1), (.string ⟨#[104, 111, 109, 101]⟩), (.bool false), (.int .i64 1000)], [], 386, (.bool true), none, 389⟩
theorem k192 : e192.Ok Tryz.prog := okT (l := [e191]) (okC k191 okN) (by kernel_rfl)
def e193 : E := ⟨165, #[(.agg #[(.int .i64 1), (.int .i64 1), (.string ⟨#[112, 97, 99, 107]⟩), (.int .i64 0), (.int .i64 1), (.slice none 0 0), (.int .i64 0), (.int .i64 2678400), (.int .i64 30), (.int .i64 30), (.int .i64 0), (.bool false)])], [], 389, (.agg #[(.int .i64 1), (.string ⟨#[112, 97, 99, 107]⟩), (.int .i64 0), (.int .i64 0)]), none, 391⟩
theorem k193 : e193.Ok Tryz.prog := okT (l := []) okN (by kernel_rfl)
def e194 : E := ⟨112, #[(.slice (some ⟨366, 0, none⟩) 1 1), (.int .i64 1), (.int .i64 1), (.int .i64 1), (.string ⟨#[104, 111, 109, 101]⟩), (.bool false), (.int .i64 1000), (.int .i64 100)], [(366, ob56)], 379, (.tuple #[(.slice (some ⟨383, 0, none⟩) 1 1), (.slice (some ⟨393, 0, none⟩) 1 1), (.int .i64 70)]), (some [(393, ob60), (383, ob61), (366, ob56)]), 394⟩
theorem k194 : e194.Ok Tryz.prog := okT (l := [e188, e189, e192, e193]) (okC k188 (okC k189 (okC k192 (okC k193 okN)))) (by kernel_rfl)
def e195 : E := ⟨84, #[(.agg #[(.slice (some ⟨366, 0, none⟩) 1 1), (.slice (some ⟨213, 0, none⟩) 1 1), (.slice none 0 0)]), (.agg #[(.int .i64 1), (.int .i64 1), (.int .i64 1), (.int .i64 1), (.string ⟨#[52, 57, 49, 49]⟩), (.string ⟨#[52, 57, 49, 50]⟩), (.int .i64 1000), (.int .i64 100), (.int .i64 0), (.bool false), (.int .i64 1), (.int .i64 1)]), (.string ⟨#[104, 111, 109, 101]⟩), (.bool false)], [(366, ob56), (213, ob43)], 369, (.tuple #[(.agg #[(.slice (some ⟨383, 0, none⟩) 1 1), (.slice (some ⟨377, 0, none⟩) 1 1), (.slice none 0 0)]), (.slice (some ⟨393, 0, none⟩) 1 1), (.int .i64 70)]), (some [(393, ob60), (383, ob61), (377, ob43), (366, ob56), (213, ob43)]), 394⟩
theorem k195 : e195.Ok Tryz.prog := okT (l := [e186, e194]) (okC k186 (okC k194 okN)) (by kernel_rfl)
def e196 : E := ⟨67, #[(.pointer (some ⟨47, 0, none⟩))], [(186, ob37), (184, ob5), (182, ob6), (179, ob38), (177, ob8), (164, ob17), (71, ob10), (47, ob40), (12, ob0), (11, ob1), (10, ob2), (8, ob3), (6, ob4), (5, ob5), (4, ob6), (3, ob7), (2, ob8)], 190, (.tuple #[]), (some [(393, ob60), (383, ob61), (377, ob43), (186, ob37), (184, ob5), (182, ob6), (179, ob38), (177, ob8), (164, ob17), (71, ob10), (47, ob62), (12, ob0), (11, ob1), (10, ob2), (8, ob3), (6, ob4), (5, ob5), (4, ob6), (3, ob7), (2, ob8)]), 394⟩
theorem k196 : e196.Ok Tryz.prog := okT (l := [e83, e184, e195]) (okC k83 (okC k184 (okC k195 okN))) (by kernel_rfl)
def e197 : E := ⟨145, #[(.string ⟨#[104, 111, 109, 101]⟩)], [], 398, (.bool true), none, 398⟩
theorem k197 : e197.Ok Tryz.prog := okT (l := []) okN (by kernel_rfl)
def e198 : E := ⟨186, #[(.slice (some ⟨179, 0, none⟩) 0 1), (.func (.func 147) #[] #[(.pointer (some ⟨397, 0, none⟩))])], [(397, ob38), (179, ob38), (177, ob8)], 398, (.int .i64 (-1)), none, 398⟩
theorem k198 : e198.Ok Tryz.prog := okT (l := []) okN (by kernel_rfl)
def e199 : E := ⟨146, #[(.slice (some ⟨179, 0, none⟩) 0 1), (.func (.func 147) #[] #[(.pointer (some ⟨397, 0, none⟩))])], [(397, ob38), (179, ob38), (177, ob8)], 398, (.bool false), none, 398⟩
theorem k199 : e199.Ok Tryz.prog := okT (l := [e198]) (okC k198 okN) (by kernel_rfl)
def e200 : E := ⟨148, #[(.int .u8 52)], [], 398, (.bool true), none, 398⟩
theorem k200 : e200.Ok Tryz.prog := okT (l := []) okN (by kernel_rfl)
def e201 : E := ⟨148, #[(.int .u8 57)], [], 398, (.bool true), none, 398⟩
theorem k201 : e201.Ok Tryz.prog := okT (l := []) okN (by kernel_rfl)
def e202 : E := ⟨97, #[(.string ⟨#[52, 57]⟩)], [], 398, (.bool true), none, 398⟩
theorem k202 : e202.Ok Tryz.prog := okT (l := [e200, e201]) (okC k200 (okC k201 okN)) (by kernel_rfl)
def e203 : E := ⟨96, #[(.slice (some ⟨179, 0, none⟩) 1 1)], [(179, ob38), (177, ob8)], 396, (.tuple #[(.map (some 396)), (.int .i64 0)]), (some [(396, ob39), (179, ob38), (177, ob8)]), 398⟩
theorem k203 : e203.Ok Tryz.prog := okT (l := [e197, e199, e202]) (okC k197 (okC k199 (okC k202 okN))) (by kernel_rfl)
def e204 : E := ⟨148, #[(.int .u8 49)], [], 398, (.bool true), none, 398⟩
theorem k204 : e204.Ok Tryz.prog := okT (l := []) okN (by kernel_rfl)
def e205 : E := ⟨148, #[(.int .u8 50)], [], 398, (.bool true), none, 398⟩
theorem k205 : e205.Ok Tryz.prog := okT (l := []) okN (by kernel_rfl)
def e206 : E := ⟨97, #[(.string ⟨#[52, 57, 49, 50]⟩)], [], 398, (.bool true), none, 398⟩
theorem k206 : e206.Ok Tryz.prog := okT (l := [e200, e201, e204, e205]) (okC k200 (okC k201 (okC k204 (okC k205 okN)))) (by kernel_rfl)
def e207 : E := ⟨98, #[(.map (some 396)), (.string ⟨#[52, 57, 49, 50]⟩), (.int .i64 4)], [(396, ob39)], 398, (.tuple #[(.string ⟨#[104, 111, 109, 101]⟩), (.bool true)]), none, 398⟩
theorem k207 : e207.Ok Tryz.prog := okT (l := []) okN (by kernel_rfl)
def e208 : E := ⟨81, #[(.slice (some ⟨179, 0, none⟩) 1 1), (.string ⟨#[52, 57, 49, 50]⟩)], [(179, ob38), (177, ob8)], 396, (.tuple #[(.string ⟨#[104, 111, 109, 101]⟩), (.bool true)]), none, 398⟩
theorem k208 : e208.Ok Tryz.prog := okT (l := [e203, e206, e207]) (okC k203 (okC k206 (okC k207 okN))) (by kernel_rfl)
def e209 : E := ⟨166, #[(.agg #[(.int .i64 1), (.int .i64 1), (.int .i64 1), (.int .i64 1), (.string ⟨#[52, 57, 49, 49]⟩), (.string ⟨#[52, 57, 49, 50]⟩), (.int .i64 1000), (.int .i64 100), (.int .i64 0), (.bool false), (.int .i64 1), (.int .i64 1)]), (.int .i64 30)], [], 400, (.bool true), none, 401⟩
theorem k209 : e209.Ok Tryz.prog := okT (l := []) okN (by kernel_rfl)
def e210 : E := ⟨171, #[(.string ⟨#[97, 108, 108]⟩)], [], 402, (.bool true), none, 402⟩
theorem k210 : e210.Ok Tryz.prog := okT (l := []) okN (by kernel_rfl)
def e211 : E := ⟨199, #[(.slice (some ⟨182, 0, none⟩) 0 1), (.func (.func 173) #[] #[(.pointer (some ⟨401, 0, none⟩))])], [(401, ob6), (182, ob6)], 402, (.int .i64 (-1)), none, 402⟩
theorem k211 : e211.Ok Tryz.prog := okT (l := []) okN (by kernel_rfl)
def e212 : E := ⟨172, #[(.slice (some ⟨182, 0, none⟩) 0 1), (.func (.func 173) #[] #[(.pointer (some ⟨401, 0, none⟩))])], [(401, ob6), (182, ob6)], 402, (.bool false), none, 402⟩
theorem k212 : e212.Ok Tryz.prog := okT (l := [e211]) (okC k211 okN) (by kernel_rfl)
def e213 : E := ⟨118, #[(.slice (some ⟨182, 0, none⟩) 1 1)], [(182, ob6)], 401, (.int .i64 0), none, 402⟩
theorem k213 : e213.Ok Tryz.prog := okT (l := [e210, e212]) (okC k210 (okC k212 okN)) (by kernel_rfl)
def e214 : E := ⟨171, #[(.string ⟨#[97, 108, 108]⟩)], [], 403, (.bool true), none, 403⟩
theorem k214 : e214.Ok Tryz.prog := okT (l := []) okN (by kernel_rfl)
def e215 : E := ⟨199, #[(.slice (some ⟨182, 0, none⟩) 0 1), (.func (.func 173) #[] #[(.pointer (some ⟨402, 0, none⟩))])], [(402, ob6), (182, ob6)], 403, (.int .i64 (-1)), none, 403⟩
theorem k215 : e215.Ok Tryz.prog := okT (l := []) okN (by kernel_rfl)
def e216 : E := ⟨172, #[(.slice (some ⟨182, 0, none⟩) 0 1), (.func (.func 173) #[] #[(.pointer (some ⟨402, 0, none⟩))])], [(402, ob6), (182, ob6)], 403, (.bool false), none, 403⟩
theorem k216 : e216.Ok Tryz.prog := okT (l := [e215]) (okC k215 okN) (by kernel_rfl)
def e217 : E := ⟨118, #[(.slice (some ⟨182, 0, none⟩) 1 1)], [(182, ob6)], 402, (.int .i64 0), none, 403⟩
theorem k217 : e217.Ok Tryz.prog := okT (l := [e214, e216]) (okC k214 (okC k216 okN)) (by kernel_rfl)
def e218 : E := ⟨201, #[(.slice none 0 0), (.int .i64 0)], [], 403, (.int .i64 (-1)), none, 403⟩
theorem k218 : e218.Ok Tryz.prog := okT (l := []) okN (by kernel_rfl)
def e219 : E := ⟨177, #[(.slice none 0 0), (.int .i64 0)], [], 403, (.bool false), none, 403⟩
theorem k219 : e219.Ok Tryz.prog := okT (l := [e218]) (okC k218 okN) (by kernel_rfl)
def e220 : E := ⟨124, #[(.int .i64 0)], [], 403, (.int .i64 5), none, 403⟩
theorem k220 : e220.Ok Tryz.prog := okT (l := []) okN (by kernel_rfl)
def e221 : E := ⟨120, #[(.slice none 0 0), (.int .i64 0)], [], 403, (.int .i64 32), none, 403⟩
theorem k221 : e221.Ok Tryz.prog := okT (l := [e219, e220]) (okC k219 (okC k220 okN)) (by kernel_rfl)
def e222 : E := ⟨200, #[(.slice none 0 0), (.func (.func 175) #[] #[(.pointer (some ⟨403, 0, none⟩)), (.pointer (some ⟨404, 0, none⟩))])], [(404, ob63), (403, ob64)], 406, (.int .i64 (-1)), none, 406⟩
theorem k222 : e222.Ok Tryz.prog := okT (l := []) okN (by kernel_rfl)
def e223 : E := ⟨176, #[(.slice none 0 0), (.func (.func 175) #[] #[(.pointer (some ⟨403, 0, none⟩)), (.pointer (some ⟨404, 0, none⟩))])], [(404, ob63), (403, ob64)], 406, (.bool false), none, 406⟩
theorem k223 : e223.Ok Tryz.prog := okT (l := [e222]) (okC k222 okN) (by kernel_rfl)
def e224 : E := ⟨119, #[(.slice (some ⟨182, 0, none⟩) 1 1), (.int .i64 32), (.int .i64 17)], [(182, ob6)], 403, (.string ⟨#[97, 108, 108]⟩), none, 406⟩
theorem k224 : e224.Ok Tryz.prog := okT (l := [e223]) (okC k223 okN) (by kernel_rfl)
def e225 : E := ⟨88, #[(.slice (some ⟨182, 0, none⟩) 1 1), (.slice none 0 0), (.int .i64 1030)], [(182, ob6)], 402, (.string ⟨#[97, 108, 108]⟩), none, 406⟩
theorem k225 : e225.Ok Tryz.prog := okT (l := [e217, e221, e224]) (okC k217 (okC k221 (okC k224 okN))) (by kernel_rfl)
def e226 : E := ⟨113, #[(.agg #[(.string ⟨#[98, 97, 115, 105, 99]⟩), (.int .i64 0), (.bool false), (.slice (some ⟨179, 0, none⟩) 1 1), (.slice (some ⟨182, 0, none⟩) 1 1), (.slice (some ⟨186, 0, none⟩) 1 1), (.slice none 0 0)]), (.slice none 0 0), (.agg #[(.int .i64 1), (.int .i64 1), (.int .i64 1), (.int .i64 1), (.string ⟨#[52, 57, 49, 49]⟩), (.string ⟨#[52, 57, 49, 50]⟩), (.int .i64 1000), (.int .i64 100), (.int .i64 0), (.bool false), (.int .i64 1), (.int .i64 1)]), (.int .i64 30)], [(186, ob37), (184, ob5), (182, ob6), (179, ob38), (177, ob8)], 398, (.slice (some ⟨406, 0, none⟩) 1 1), (some [(406, ob65), (186, ob37), (184, ob5), (182, ob6), (179, ob38), (177, ob8)]), 407⟩
theorem k226 : e226.Ok Tryz.prog := okT (l := [e209, e213, e225]) (okC k209 (okC k213 (okC k225 okN))) (by kernel_rfl)
def e227 : E := ⟨168, #[(.agg #[(.int .i64 1), (.string ⟨#[]⟩), (.string ⟨#[]⟩), (.int .i64 500), (.slice (some ⟨184, 0, none⟩) 1 1)]), (.pointer (some ⟨408, 0, none⟩)), (.pointer (some ⟨409, 0, none⟩)), (.pointer (some ⟨410, 0, none⟩))], [(410, ob66), (409, ob67), (408, ob17), (184, ob5)], 413, (.bool true), none, 414⟩
theorem k227 : e227.Ok Tryz.prog := okT (l := []) okN (by kernel_rfl)
def e228 : E := ⟨114, #[(.agg #[(.string ⟨#[98, 97, 115, 105, 99]⟩), (.int .i64 0), (.bool false), (.slice (some ⟨179, 0, none⟩) 1 1), (.slice (some ⟨182, 0, none⟩) 1 1), (.slice (some ⟨186, 0, none⟩) 1 1), (.slice none 0 0)]), (.int .i64 1), (.string ⟨#[104, 111, 109, 101]⟩), (.string ⟨#[97, 108, 108]⟩)], [(186, ob37), (184, ob5), (182, ob6), (179, ob38), (177, ob8)], 407, (.tuple #[(.agg #[(.int .i64 1), (.string ⟨#[]⟩), (.string ⟨#[]⟩), (.int .i64 500), (.slice (some ⟨414, 0, none⟩) 1 1)]), (.bool true)]), (some [(414, ob5), (186, ob37), (184, ob5), (182, ob6), (179, ob38), (177, ob8)]), 415⟩
theorem k228 : e228.Ok Tryz.prog := okT (l := [e227]) (okC k227 okN) (by kernel_rfl)
def e229 : E := ⟨55, #[(.int .i64 1099511627776), (.slice (some ⟨417, 0, none⟩) 2 2)], [(417, ob68)], 418, (.bool true), none, 418⟩
theorem k229 : e229.Ok Tryz.prog := okT (l := []) okN (by kernel_rfl)
def e230 : E := ⟨55, #[(.int .i64 1125899906842624), (.slice (some ⟨418, 0, none⟩) 1 1)], [(418, ob69)], 419, (.bool true), none, 419⟩
theorem k230 : e230.Ok Tryz.prog := okT (l := []) okN (by kernel_rfl)
def e231 : E := ⟨44, #[(.slice (some ⟨414, 0, none⟩) 1 1)], [(414, ob5)], 416, (.int .i64 0), none, 419⟩
theorem k231 : e231.Ok Tryz.prog := okT (l := [e229, e230]) (okC k229 (okC k230 okN)) (by kernel_rfl)
def e232 : E := ⟨57, #[(.slice (some ⟨414, 0, none⟩) 1 1), (.int .i64 70)], [(414, ob5)], 419, (.tuple #[(.int .i64 1400), (.bool true)]), none, 420⟩
theorem k232 : e232.Ok Tryz.prog := okT (l := []) okN (by kernel_rfl)
def e233 : E := ⟨57, #[(.slice (some ⟨414, 0, none⟩) 1 1), (.int .i64 0)], [(414, ob5)], 420, (.tuple #[(.int .i64 0), (.bool true)]), none, 421⟩
theorem k233 : e233.Ok Tryz.prog := okT (l := []) okN (by kernel_rfl)
def e234 : E := ⟨115, #[(.slice (some ⟨414, 0, none⟩) 1 1), (.int .i64 0), (.int .i64 70)], [(414, ob5)], 416, (.tuple #[(.int .i64 1400), (.int .i64 0)]), none, 421⟩
theorem k234 : e234.Ok Tryz.prog := okT (l := [e231, e232, e233]) (okC k231 (okC k232 (okC k233 okN))) (by kernel_rfl)
def e235 : E := ⟨85, #[(.agg #[(.string ⟨#[98, 97, 115, 105, 99]⟩), (.int .i64 0), (.bool false), (.slice (some ⟨179, 0, none⟩) 1 1), (.slice (some ⟨182, 0, none⟩) 1 1), (.slice (some ⟨186, 0, none⟩) 1 1), (.slice none 0 0)]), (.slice none 0 0), (.agg #[(.int .i64 1), (.int .i64 1), (.int .i64 1), (.int .i64 1), (.string ⟨#[52, 57, 49, 49]⟩), (.string ⟨#[52, 57, 49, 50]⟩), (.int .i64 1000), (.int .i64 100), (.int .i64 0), (.bool false), (.int .i64 1), (.int .i64 1)]), (.int .i64 30)], [(186, ob37), (184, ob5), (182, ob6), (179, ob38), (177, ob8)], 394, (.tuple #[(.slice (some ⟨406, 0, none⟩) 1 1), (.int .i64 500), (.int .i64 0)]), (some [(406, ob70), (186, ob37), (184, ob5), (182, ob6), (179, ob38), (177, ob8)]), 421⟩
theorem k235 : e235.Ok Tryz.prog := okT (l := [e208, e226, e228, e234]) (okC k208 (okC k226 (okC k228 (okC k234 okN)))) (by kernel_rfl)
def e236 : E := ⟨68, #[(.pointer (some ⟨47, 0, none⟩))], [(393, ob60), (383, ob61), (377, ob43), (186, ob37), (184, ob5), (182, ob6), (179, ob38), (177, ob8), (164, ob17), (71, ob10), (47, ob62), (12, ob0), (11, ob1), (10, ob2), (8, ob3), (6, ob4), (5, ob5), (4, ob6), (3, ob7), (2, ob8)], 394, (.int .i64 0), (some [(406, ob70), (393, ob60), (383, ob61), (377, ob43), (186, ob37), (184, ob5), (182, ob6), (179, ob38), (177, ob8), (164, ob17), (71, ob10), (47, ob71), (12, ob0), (11, ob1), (10, ob2), (8, ob3), (6, ob4), (5, ob5), (4, ob6), (3, ob7), (2, ob8)]), 422⟩
theorem k236 : e236.Ok Tryz.prog := okT (l := [e235]) (okC k235 okN) (by kernel_rfl)
def e237 : E := ⟨66, #[(.pointer (some ⟨48, 0, none⟩))], [(186, ob37), (184, ob5), (182, ob6), (179, ob38), (177, ob8), (164, ob17), (71, ob10), (48, ob35), (47, ob40), (12, ob0), (11, ob1), (10, ob2), (8, ob3), (6, ob4), (5, ob5), (4, ob6), (3, ob7), (2, ob8)], 190, (.int .i64 0), (some [(406, ob70), (393, ob60), (383, ob61), (377, ob43), (186, ob37), (184, ob5), (182, ob6), (179, ob38), (177, ob8), (164, ob17), (71, ob10), (48, ob35), (47, ob71), (12, ob0), (11, ob1), (10, ob2), (8, ob3), (6, ob4), (5, ob5), (4, ob6), (3, ob7), (2, ob8)]), 422⟩
theorem k237 : e237.Ok Tryz.prog := okT (l := [e196, e236]) (okC k196 (okC k236 okN)) (by kernel_rfl)
def e238 : E := ⟨61, #[(.func (.func 66) #[] #[(.pointer (some ⟨48, 0, none⟩))]), (.pointer (some ⟨49, 0, none⟩))], [(186, ob37), (184, ob5), (182, ob6), (179, ob38), (177, ob8), (164, ob17), (71, ob10), (49, ob36), (48, ob35), (47, ob40), (12, ob0), (11, ob1), (10, ob2), (8, ob3), (6, ob4), (5, ob5), (4, ob6), (3, ob7), (2, ob8)], 190, (.tuple #[]), (some [(406, ob70), (393, ob60), (383, ob61), (377, ob43), (186, ob37), (184, ob5), (182, ob6), (179, ob38), (177, ob8), (164, ob17), (71, ob10), (49, ob36), (48, ob35), (47, ob71), (12, ob0), (11, ob1), (10, ob2), (8, ob3), (6, ob4), (5, ob5), (4, ob6), (3, ob7), (2, ob8)]), 422⟩
theorem k238 : e238.Ok Tryz.prog := okT (l := [e237]) (okC k237 okN) (by kernel_rfl)
def e239 : E := ⟨223, #[(.int .i64 2001)], [], 425, (.int .i64 366), none, 425⟩
theorem k239 : e239.Ok Tryz.prog := okT (l := []) okN (by kernel_rfl)
def e240 : E := ⟨223, #[(.int .i64 2000)], [], 425, (.int .i64 0), none, 425⟩
theorem k240 : e240.Ok Tryz.prog := okT (l := []) okN (by kernel_rfl)
def e241 : E := ⟨224, #[(.int .i64 2000), (.int .i64 1)], [], 425, (.int .i64 31), none, 426⟩
theorem k241 : e241.Ok Tryz.prog := okT (l := []) okN (by kernel_rfl)
def e242 : E := ⟨198, #[(.int .i64 0)], [], 423, (.agg #[(.int .i64 2000), (.int .i64 1), (.int .i64 1)]), none, 426⟩
theorem k242 : e242.Ok Tryz.prog := okT (l := [e239, e240, e241]) (okC k239 (okC k240 (okC k241 okN))) (by kernel_rfl)
def e243 : E := ⟨170, #[(.int .i64 1), (.int .i64 1000)], [], 423, (.int .i64 0), none, 427⟩
theorem k243 : e243.Ok Tryz.prog := okT (l := [e242]) (okC k242 okN) (by kernel_rfl)
def e244 : E := ⟨235, #[(.int .i64 2000)], [], 430, (.bool true), none, 430⟩
theorem k244 : e244.Ok Tryz.prog := okT (l := []) okN (by kernel_rfl)
def e245 : E := ⟨224, #[(.int .i64 2000), (.int .i64 2)], [], 429, (.int .i64 29), none, 430⟩
theorem k245 : e245.Ok Tryz.prog := okT (l := [e244]) (okC k244 okN) (by kernel_rfl)
def e246 : E := ⟨234, #[(.int .i64 2000), (.int .i64 2)], [], 429, (.int .i64 29), none, 430⟩
theorem k246 : e246.Ok Tryz.prog := okT (l := [e245]) (okC k245 okN) (by kernel_rfl)
def e247 : E := ⟨223, #[(.int .i64 2000)], [], 430, (.int .i64 0), none, 430⟩
theorem k247 : e247.Ok Tryz.prog := okT (l := []) okN (by kernel_rfl)
def e248 : E := ⟨224, #[(.int .i64 2000), (.int .i64 1)], [], 430, (.int .i64 31), none, 431⟩
theorem k248 : e248.Ok Tryz.prog := okT (l := []) okN (by kernel_rfl)
def e249 : E := ⟨222, #[(.agg #[(.int .i64 2000), (.int .i64 2), (.int .i64 1)])], [], 428, (.tuple #[(.int .i64 31), (.int .i64 0)]), none, 431⟩
theorem k249 : e249.Ok Tryz.prog := okT (l := [e246, e247, e248]) (okC k246 (okC k247 (okC k248 okN))) (by kernel_rfl)
def e250 : E := ⟨197, #[(.int .i64 1), (.int .i64 1)], [], 428, (.int .i64 2678400), none, 431⟩
theorem k250 : e250.Ok Tryz.prog := okT (l := [e249]) (okC k249 okN) (by kernel_rfl)
def e251 : E := ⟨224, #[(.int .i64 2000), (.int .i64 1)], [], 433, (.int .i64 31), none, 434⟩
theorem k251 : e251.Ok Tryz.prog := okT (l := []) okN (by kernel_rfl)
def e252 : E := ⟨234, #[(.int .i64 2000), (.int .i64 1)], [], 433, (.int .i64 31), none, 434⟩
theorem k252 : e252.Ok Tryz.prog := okT (l := [e251]) (okC k251 okN) (by kernel_rfl)
def e253 : E := ⟨223, #[(.int .i64 2000)], [], 434, (.int .i64 0), none, 434⟩
theorem k253 : e253.Ok Tryz.prog := okT (l := []) okN (by kernel_rfl)
def e254 : E := ⟨222, #[(.agg #[(.int .i64 2000), (.int .i64 1), (.int .i64 1)])], [], 432, (.tuple #[(.int .i64 0), (.int .i64 0)]), none, 434⟩
theorem k254 : e254.Ok Tryz.prog := okT (l := [e252, e253]) (okC k252 (okC k253 okN)) (by kernel_rfl)
def e255 : E := ⟨197, #[(.int .i64 1), (.int .i64 0)], [], 432, (.int .i64 0), none, 434⟩
theorem k255 : e255.Ok Tryz.prog := okT (l := [e254]) (okC k254 okN) (by kernel_rfl)
def e256 : E := ⟨169, #[(.int .i64 1), (.int .i64 0)], [], 427, (.agg #[(.int .i64 0), (.int .i64 2678400)]), none, 434⟩
theorem k256 : e256.Ok Tryz.prog := okT (l := [e250, e255]) (okC k250 (okC k255 okN)) (by kernel_rfl)
def e257 : E := ⟨117, #[(.int .i64 1), (.int .i64 1000)], [], 422, (.agg #[(.int .i64 0), (.int .i64 2678400)]), none, 434⟩
theorem k257 : e257.Ok Tryz.prog := okT (l := [e243, e256]) (okC k243 (okC k256 okN)) (by kernel_rfl)
def e258 : E := ⟨87, #[(.pointer (some ⟨47, 0, none⟩))], [(406, ob70), (393, ob60), (383, ob61), (377, ob43), (186, ob37), (184, ob5), (182, ob6), (179, ob38), (177, ob8), (164, ob17), (71, ob10), (47, ob71), (12, ob0), (11, ob1), (10, ob2), (8, ob3), (6, ob4), (5, ob5), (4, ob6), (3, ob7), (2, ob8)], 422, (.int .i64 0), none, 434⟩
theorem k258 : e258.Ok Tryz.prog := okT (l := [e257]) (okC k257 okN) (by kernel_rfl)
def e259 : E := ⟨86, #[(.slice none 0 0), (.int .i64 1), (.int .i64 1), (.int .i64 0)], [], 434, (.agg #[(.int .i64 1), (.int .i64 1), (.int .i64 0), (.int .i64 0), (.int .i64 0)]), none, 436⟩
theorem k259 : e259.Ok Tryz.prog := okT (l := []) okN (by kernel_rfl)
def e260 : E := ⟨171, #[(.string ⟨#[97, 108, 108]⟩)], [], 438, (.bool true), none, 438⟩
theorem k260 : e260.Ok Tryz.prog := okT (l := []) okN (by kernel_rfl)
def e261 : E := ⟨199, #[(.slice (some ⟨182, 0, none⟩) 0 1), (.func (.func 173) #[] #[(.pointer (some ⟨437, 0, none⟩))])], [(437, ob6), (182, ob6)], 438, (.int .i64 (-1)), none, 438⟩
theorem k261 : e261.Ok Tryz.prog := okT (l := []) okN (by kernel_rfl)
def e262 : E := ⟨172, #[(.slice (some ⟨182, 0, none⟩) 0 1), (.func (.func 173) #[] #[(.pointer (some ⟨437, 0, none⟩))])], [(437, ob6), (182, ob6)], 438, (.bool false), none, 438⟩
theorem k262 : e262.Ok Tryz.prog := okT (l := [e261]) (okC k261 okN) (by kernel_rfl)
def e263 : E := ⟨118, #[(.slice (some ⟨182, 0, none⟩) 1 1)], [(182, ob6)], 437, (.int .i64 0), none, 438⟩
theorem k263 : e263.Ok Tryz.prog := okT (l := [e260, e262]) (okC k260 (okC k262 okN)) (by kernel_rfl)
def e264 : E := ⟨201, #[(.slice none 0 0), (.int .i64 0)], [], 438, (.int .i64 (-1)), none, 438⟩
theorem k264 : e264.Ok Tryz.prog := okT (l := []) okN (by kernel_rfl)
end Go.Proofs.YtmodghiokoiipaaGreat
