/-
  Known calls.
-/
import Derived.Test.YtmodghiokoiipaaGreatGe
namespace Go.Proofs.YtmodghiokoiipaaGreat
open Go Go.RowKit

def e265 : E := ⟨177, #[(.slice none 0 0), (.int .i64 0)], [], 438, (.bool false), none, 438⟩
theorem k265 : e265.Ok Tryz.prog := okT (l := [e264]) (okC k264 okN) (by kernel_rfl)
def e266 : E := ⟨124, #[(.int .i64 0)], [], 438, (.int .i64 5), none, 438⟩
theorem k266 : e266.Ok Tryz.prog := okT (l := []) okN (by kernel_rfl)
def e267 : E := ⟨120, #[(.slice none 0 0), (.int .i64 0)], [], 438, (.int .i64 32), none, 438⟩
theorem k267 : e267.Ok Tryz.prog := okT (l := [e265, e266]) (okC k265 (okC k266 okN)) (by kernel_rfl)
def e268 : E := ⟨200, #[(.slice none 0 0), (.func (.func 175) #[] #[(.pointer (some ⟨438, 0, none⟩)), (.pointer (some ⟨439, 0, none⟩))])], [(439, ob72), (438, ob64)], 441, (.int .i64 (-1)), none, 441⟩
theorem k268 : e268.Ok Tryz.prog := okT (l := []) okN (by kernel_rfl)
def e269 : E := ⟨176, #[(.slice none 0 0), (.func (.func 175) #[] #[(.pointer (some ⟨438, 0, none⟩)), (.pointer (some ⟨439, 0, none⟩))])], [(439, ob72), (438, ob64)], 441, (.bool false), none, 441⟩
theorem k269 : e269.Ok Tryz.prog := okT (l := [e268]) (okC k268 okN) (by kernel_rfl)
def e270 : E := ⟨119, #[(.slice (some ⟨182, 0, none⟩) 1 1), (.int .i64 32), (.int .i64 16)], [(182, ob6)], 438, (.string ⟨#[97, 108, 108]⟩), none, 441⟩
theorem k270 : e270.Ok Tryz.prog := okT (l := [e269]) (okC k269 okN) (by kernel_rfl)
def e271 : E := ⟨88, #[(.slice (some ⟨182, 0, none⟩) 1 1), (.slice none 0 0), (.int .i64 1000)], [(182, ob6)], 437, (.string ⟨#[97, 108, 108]⟩), none, 441⟩
theorem k271 : e271.Ok Tryz.prog := okT (l := [e263, e267, e270]) (okC k263 (okC k267 (okC k270 okN))) (by kernel_rfl)
def e272 : E := ⟨124, #[(.int .i64 0)], [], 446, (.int .i64 5), none, 446⟩
theorem k272 : e272.Ok Tryz.prog := okT (l := []) okN (by kernel_rfl)
def e273 : E := ⟨90, #[(.agg #[(.int .i64 1), (.int .i64 1), (.int .i64 1), (.int .i64 1), (.string ⟨#[52, 57, 49, 49]⟩), (.string ⟨#[52, 57, 49, 50]⟩), (.int .i64 1000), (.int .i64 100), (.int .i64 0), (.bool false), (.int .i64 1), (.int .i64 1)]), (.string ⟨#[104, 111, 109, 101]⟩), (.string ⟨#[97, 108, 108]⟩), (.agg #[(.int .i64 1), (.int .i64 1), (.int .i64 0), (.int .i64 0), (.int .i64 0)]), (.bool false)], [], 441, (.agg #[(.int .i64 1), (.int .i64 100), (.int .i64 5), (.int .i64 16), (.int .i64 0), (.int .i64 0), (.string ⟨#[104, 111, 109, 101]⟩), (.string ⟨#[97, 108, 108]⟩), (.bool false)]), none, 446⟩
theorem k273 : e273.Ok Tryz.prog := okT (l := [e272]) (okC k272 okN) (by kernel_rfl)
def e274 : E := ⟨89, #[(.slice none 0 0), (.agg #[(.int .i64 1), (.int .i64 100), (.int .i64 5), (.int .i64 16), (.int .i64 0), (.int .i64 0), (.string ⟨#[104, 111, 109, 101]⟩), (.string ⟨#[97, 108, 108]⟩), (.bool false)]), (.int .i64 1900)], [], 446, (.tuple #[(.slice none 0 0), (.int .i64 1900), (.int .i64 0)]), none, 447⟩
theorem k274 : e274.Ok Tryz.prog := okT (l := []) okN (by kernel_rfl)
def e275 : E := ⟨70, #[(.pointer (some ⟨47, 0, none⟩))], [(406, ob70), (393, ob60), (383, ob61), (377, ob43), (186, ob37), (184, ob5), (182, ob6), (179, ob38), (177, ob8), (164, ob17), (71, ob10), (47, ob71), (12, ob0), (11, ob1), (10, ob2), (8, ob3), (6, ob4), (5, ob5), (4, ob6), (3, ob7), (2, ob8)], 422, (.int .i64 0), (some [(406, ob70), (393, ob60), (383, ob61), (377, ob43), (186, ob37), (184, ob5), (182, ob6), (179, ob38), (177, ob8), (164, ob17), (71, ob10), (47, ob73), (12, ob0), (11, ob1), (10, ob2), (8, ob3), (6, ob4), (5, ob5), (4, ob6), (3, ob7), (2, ob8)]), 447⟩
theorem k275 : e275.Ok Tryz.prog := okT (l := [e258, e259, e271, e273, e274]) (okC k258 (okC k259 (okC k271 (okC k273 (okC k274 okN))))) (by kernel_rfl)
def e276 : E := ⟨69, #[(.pointer (some ⟨48, 0, none⟩))], [(406, ob70), (393, ob60), (383, ob61), (377, ob43), (186, ob37), (184, ob5), (182, ob6), (179, ob38), (177, ob8), (164, ob17), (71, ob10), (48, ob35), (47, ob71), (12, ob0), (11, ob1), (10, ob2), (8, ob3), (6, ob4), (5, ob5), (4, ob6), (3, ob7), (2, ob8)], 422, (.int .i64 0), (some [(406, ob70), (393, ob60), (383, ob61), (377, ob43), (186, ob37), (184, ob5), (182, ob6), (179, ob38), (177, ob8), (164, ob17), (71, ob10), (48, ob35), (47, ob73), (12, ob0), (11, ob1), (10, ob2), (8, ob3), (6, ob4), (5, ob5), (4, ob6), (3, ob7), (2, ob8)]), 447⟩
theorem k276 : e276.Ok Tryz.prog := okT (l := [e275]) (okC k275 okN) (by kernel_rfl)
def e277 : E := ⟨61, #[(.func (.func 69) #[] #[(.pointer (some ⟨48, 0, none⟩))]), (.pointer (some ⟨49, 0, none⟩))], [(406, ob70), (393, ob60), (383, ob61), (377, ob43), (186, ob37), (184, ob5), (182, ob6), (179, ob38), (177, ob8), (164, ob17), (71, ob10), (49, ob36), (48, ob35), (47, ob71), (12, ob0), (11, ob1), (10, ob2), (8, ob3), (6, ob4), (5, ob5), (4, ob6), (3, ob7), (2, ob8)], 422, (.tuple #[]), (some [(406, ob70), (393, ob60), (383, ob61), (377, ob43), (186, ob37), (184, ob5), (182, ob6), (179, ob38), (177, ob8), (164, ob17), (71, ob10), (49, ob36), (48, ob35), (47, ob73), (12, ob0), (11, ob1), (10, ob2), (8, ob3), (6, ob4), (5, ob5), (4, ob6), (3, ob7), (2, ob8)]), 447⟩
theorem k277 : e277.Ok Tryz.prog := okT (l := [e276]) (okC k276 okN) (by kernel_rfl)
def e278 : E := ⟨149, #[(.slice (some ⟨383, 0, none⟩) 1 1)], [(383, ob61)], 451, (.slice (some ⟨453, 0, none⟩) 1 1), (some [(453, ob61), (383, ob61)]), 454⟩
theorem k278 : e278.Ok Tryz.prog := okT (l := []) okN (by kernel_rfl)
def e279 : E := ⟨99, #[(.agg #[(.slice (some ⟨383, 0, none⟩) 1 1), (.slice (some ⟨377, 0, none⟩) 1 1), (.slice none 0 0)])], [(383, ob61), (377, ob43)], 449, (.agg #[(.slice (some ⟨453, 0, none⟩) 1 1), (.slice (some ⟨454, 0, none⟩) 1 1), (.slice none 0 0)]), (some [(454, ob43), (453, ob61), (383, ob61), (377, ob43)]), 455⟩
theorem k279 : e279.Ok Tryz.prog := okT (l := [e278]) (okC k278 okN) (by kernel_rfl)
def e280 : E := ⟨125, #[(.slice (some ⟨454, 0, none⟩) 1 1)], [(454, ob43)], 456, (.map (some 456)), (some [(456, ob74), (454, ob43)]), 458⟩
theorem k280 : e280.Ok Tryz.prog := okT (l := []) okN (by kernel_rfl)
def e281 : E := ⟨152, #[(.int .i64 1), (.int .i64 1), (.int .i64 9999)], [], 460, (.bool true), none, 460⟩
theorem k281 : e281.Ok Tryz.prog := okT (l := []) okN (by kernel_rfl)
def e282 : E := ⟨19, #[(.int .i64 700)], [], 460, (.bool true), none, 460⟩
theorem k282 : e282.Ok Tryz.prog := okT (l := []) okN (by kernel_rfl)
def e283 : E := ⟨152, #[(.int .i64 0), (.int .i64 (-1125899906842624)), (.int .i64 0)], [], 460, (.bool true), none, 460⟩
theorem k283 : e283.Ok Tryz.prog := okT (l := []) okN (by kernel_rfl)
def e284 : E := ⟨152, #[(.int .i64 0), (.int .i64 0), (.int .i64 1125899906842624)], [], 460, (.bool true), none, 460⟩
theorem k284 : e284.Ok Tryz.prog := okT (l := []) okN (by kernel_rfl)
def e285 : E := ⟨152, #[(.int .i64 1000), (.int .i64 (-1)), (.int .i64 12622780799)], [], 460, (.bool true), none, 460⟩
theorem k285 : e285.Ok Tryz.prog := okT (l := []) okN (by kernel_rfl)
def e286 : E := ⟨150, #[(.agg #[(.int .i64 1), (.int .i64 700), (.int .i64 0), (.int .i64 0), (.int .i64 1000)])], [], 459, (.int .i64 0), none, 460⟩
theorem k286 : e286.Ok Tryz.prog := okT (l := [e281, e282, e283, e284, e285]) (okC k281 (okC k282 (okC k283 (okC k284 (okC k285 okN))))) (by kernel_rfl)
def e287 : E := ⟨126, #[(.agg #[(.int .i64 1), (.int .i64 700), (.int .i64 0), (.int .i64 0), (.int .i64 1000)])], [], 458, (.int .i64 700), none, 460⟩
theorem k287 : e287.Ok Tryz.prog := okT (l := [e286]) (okC k286 okN) (by kernel_rfl)
def e288 : E := ⟨152, #[(.int .i64 1), (.int .i64 1), (.int .i64 9999)], [], 463, (.bool true), none, 463⟩
theorem k288 : e288.Ok Tryz.prog := okT (l := []) okN (by kernel_rfl)
def e289 : E := ⟨19, #[(.int .i64 700)], [], 463, (.bool true), none, 463⟩
theorem k289 : e289.Ok Tryz.prog := okT (l := []) okN (by kernel_rfl)
def e290 : E := ⟨152, #[(.int .i64 0), (.int .i64 (-1125899906842624)), (.int .i64 0)], [], 463, (.bool true), none, 463⟩
theorem k290 : e290.Ok Tryz.prog := okT (l := []) okN (by kernel_rfl)
def e291 : E := ⟨152, #[(.int .i64 0), (.int .i64 0), (.int .i64 1125899906842624)], [], 463, (.bool true), none, 463⟩
theorem k291 : e291.Ok Tryz.prog := okT (l := []) okN (by kernel_rfl)
def e292 : E := ⟨152, #[(.int .i64 1000), (.int .i64 (-1)), (.int .i64 12622780799)], [], 463, (.bool true), none, 463⟩
theorem k292 : e292.Ok Tryz.prog := okT (l := []) okN (by kernel_rfl)
def e293 : E := ⟨150, #[(.agg #[(.int .i64 1), (.int .i64 700), (.int .i64 0), (.int .i64 0), (.int .i64 1000)])], [], 462, (.int .i64 0), none, 463⟩
theorem k293 : e293.Ok Tryz.prog := okT (l := [e288, e289, e290, e291, e292]) (okC k288 (okC k289 (okC k290 (okC k291 (okC k292 okN))))) (by kernel_rfl)
def e294 : E := ⟨152, #[(.int .i64 700), (.int .i64 0), (.int .i64 1125899906842624)], [], 463, (.bool true), none, 463⟩
theorem k294 : e294.Ok Tryz.prog := okT (l := []) okN (by kernel_rfl)
def e295 : E := ⟨152, #[(.int .i64 1), (.int .i64 1), (.int .i64 9999)], [], 465, (.bool true), none, 465⟩
theorem k295 : e295.Ok Tryz.prog := okT (l := []) okN (by kernel_rfl)
def e296 : E := ⟨19, #[(.int .i64 700)], [], 465, (.bool true), none, 465⟩
theorem k296 : e296.Ok Tryz.prog := okT (l := []) okN (by kernel_rfl)
def e297 : E := ⟨152, #[(.int .i64 0), (.int .i64 (-1125899906842624)), (.int .i64 0)], [], 465, (.bool true), none, 465⟩
theorem k297 : e297.Ok Tryz.prog := okT (l := []) okN (by kernel_rfl)
def e298 : E := ⟨152, #[(.int .i64 0), (.int .i64 0), (.int .i64 1125899906842624)], [], 465, (.bool true), none, 465⟩
theorem k298 : e298.Ok Tryz.prog := okT (l := []) okN (by kernel_rfl)
def e299 : E := ⟨152, #[(.int .i64 1000), (.int .i64 (-1)), (.int .i64 12622780799)], [], 465, (.bool true), none, 465⟩
theorem k299 : e299.Ok Tryz.prog := okT (l := []) okN (by kernel_rfl)
def e300 : E := ⟨150, #[(.agg #[(.int .i64 1), (.int .i64 700), (.int .i64 0), (.int .i64 0), (.int .i64 1000)])], [], 464, (.int .i64 0), none, 465⟩
theorem k300 : e300.Ok Tryz.prog := okT (l := [e295, e296, e297, e298, e299]) (okC k295 (okC k296 (okC k297 (okC k298 (okC k299 okN))))) (by kernel_rfl)
def e301 : E := ⟨126, #[(.agg #[(.int .i64 1), (.int .i64 700), (.int .i64 0), (.int .i64 0), (.int .i64 1000)])], [], 463, (.int .i64 700), none, 465⟩
theorem k301 : e301.Ok Tryz.prog := okT (l := [e300]) (okC k300 okN) (by kernel_rfl)
def e302 : E := ⟨127, #[(.agg #[(.int .i64 1), (.int .i64 700), (.int .i64 0), (.int .i64 0), (.int .i64 1000)]), (.int .i64 700)], [], 460, (.tuple #[(.agg #[(.int .i64 1), (.int .i64 0), (.int .i64 0), (.int .i64 0), (.int .i64 1000)]), (.int .i64 0)]), none, 465⟩
theorem k302 : e302.Ok Tryz.prog := okT (l := [e293, e294, e301]) (okC k293 (okC k294 (okC k301 okN))) (by kernel_rfl)
def e303 : E := ⟨91, #[(.agg #[(.slice (some ⟨383, 0, none⟩) 1 1), (.slice (some ⟨377, 0, none⟩) 1 1), (.slice none 0 0)]), (.int .i64 1), (.int .i64 1900), (.bool true)], [(383, ob61), (377, ob43)], 447, (.tuple #[(.agg #[(.slice (some ⟨453, 0, none⟩) 1 1), (.slice (some ⟨454, 0, none⟩) 1 1), (.slice none 0 0)]), (.int .i64 700), (.int .i64 1200)]), (some [(454, ob75), (453, ob61), (383, ob61), (377, ob43)]), 466⟩
theorem k303 : e303.Ok Tryz.prog := okT (l := [e279, e280, e287, e302]) (okC k279 (okC k280 (okC k287 (okC k302 okN)))) (by kernel_rfl)
def e304 : E := ⟨223, #[(.int .i64 2001)], [], 470, (.int .i64 366), none, 470⟩
theorem k304 : e304.Ok Tryz.prog := okT (l := []) okN (by kernel_rfl)
def e305 : E := ⟨223, #[(.int .i64 2000)], [], 470, (.int .i64 0), none, 470⟩
theorem k305 : e305.Ok Tryz.prog := okT (l := []) okN (by kernel_rfl)
def e306 : E := ⟨224, #[(.int .i64 2000), (.int .i64 1)], [], 470, (.int .i64 31), none, 471⟩
theorem k306 : e306.Ok Tryz.prog := okT (l := []) okN (by kernel_rfl)
def e307 : E := ⟨198, #[(.int .i64 0)], [], 468, (.agg #[(.int .i64 2000), (.int .i64 1), (.int .i64 1)]), none, 471⟩
theorem k307 : e307.Ok Tryz.prog := okT (l := [e304, e305, e306]) (okC k304 (okC k305 (okC k306 okN))) (by kernel_rfl)
def e308 : E := ⟨170, #[(.int .i64 1), (.int .i64 1000)], [], 468, (.int .i64 0), none, 472⟩
theorem k308 : e308.Ok Tryz.prog := okT (l := [e307]) (okC k307 okN) (by kernel_rfl)
def e309 : E := ⟨235, #[(.int .i64 2000)], [], 475, (.bool true), none, 475⟩
theorem k309 : e309.Ok Tryz.prog := okT (l := []) okN (by kernel_rfl)
def e310 : E := ⟨224, #[(.int .i64 2000), (.int .i64 2)], [], 474, (.int .i64 29), none, 475⟩
theorem k310 : e310.Ok Tryz.prog := okT (l := [e309]) (okC k309 okN) (by kernel_rfl)
def e311 : E := ⟨234, #[(.int .i64 2000), (.int .i64 2)], [], 474, (.int .i64 29), none, 475⟩
theorem k311 : e311.Ok Tryz.prog := okT (l := [e310]) (okC k310 okN) (by kernel_rfl)
def e312 : E := ⟨223, #[(.int .i64 2000)], [], 475, (.int .i64 0), none, 475⟩
theorem k312 : e312.Ok Tryz.prog := okT (l := []) okN (by kernel_rfl)
def e313 : E := ⟨224, #[(.int .i64 2000), (.int .i64 1)], [], 475, (.int .i64 31), none, 476⟩
theorem k313 : e313.Ok Tryz.prog := okT (l := []) okN (by kernel_rfl)
def e314 : E := ⟨222, #[(.agg #[(.int .i64 2000), (.int .i64 2), (.int .i64 1)])], [], 473, (.tuple #[(.int .i64 31), (.int .i64 0)]), none, 476⟩
theorem k314 : e314.Ok Tryz.prog := okT (l := [e311, e312, e313]) (okC k311 (okC k312 (okC k313 okN))) (by kernel_rfl)
def e315 : E := ⟨197, #[(.int .i64 1), (.int .i64 1)], [], 473, (.int .i64 2678400), none, 476⟩
theorem k315 : e315.Ok Tryz.prog := okT (l := [e314]) (okC k314 okN) (by kernel_rfl)
def e316 : E := ⟨224, #[(.int .i64 2000), (.int .i64 1)], [], 478, (.int .i64 31), none, 479⟩
theorem k316 : e316.Ok Tryz.prog := okT (l := []) okN (by kernel_rfl)
def e317 : E := ⟨234, #[(.int .i64 2000), (.int .i64 1)], [], 478, (.int .i64 31), none, 479⟩
theorem k317 : e317.Ok Tryz.prog := okT (l := [e316]) (okC k316 okN) (by kernel_rfl)
def e318 : E := ⟨223, #[(.int .i64 2000)], [], 479, (.int .i64 0), none, 479⟩
theorem k318 : e318.Ok Tryz.prog := okT (l := []) okN (by kernel_rfl)
def e319 : E := ⟨222, #[(.agg #[(.int .i64 2000), (.int .i64 1), (.int .i64 1)])], [], 477, (.tuple #[(.int .i64 0), (.int .i64 0)]), none, 479⟩
theorem k319 : e319.Ok Tryz.prog := okT (l := [e317, e318]) (okC k317 (okC k318 okN)) (by kernel_rfl)
def e320 : E := ⟨197, #[(.int .i64 1), (.int .i64 0)], [], 477, (.int .i64 0), none, 479⟩
theorem k320 : e320.Ok Tryz.prog := okT (l := [e319]) (okC k319 okN) (by kernel_rfl)
def e321 : E := ⟨169, #[(.int .i64 1), (.int .i64 0)], [], 472, (.agg #[(.int .i64 0), (.int .i64 2678400)]), none, 479⟩
theorem k321 : e321.Ok Tryz.prog := okT (l := [e315, e320]) (okC k315 (okC k320 okN)) (by kernel_rfl)
def e322 : E := ⟨117, #[(.int .i64 1), (.int .i64 1000)], [], 467, (.agg #[(.int .i64 0), (.int .i64 2678400)]), none, 479⟩
theorem k322 : e322.Ok Tryz.prog := okT (l := [e308, e321]) (okC k308 (okC k321 okN)) (by kernel_rfl)
def e323 : E := ⟨87, #[(.pointer (some ⟨47, 0, none⟩))], [(406, ob70), (393, ob60), (383, ob61), (377, ob43), (186, ob37), (184, ob5), (182, ob6), (179, ob38), (177, ob8), (164, ob17), (71, ob10), (47, ob73), (12, ob0), (11, ob1), (10, ob2), (8, ob3), (6, ob4), (5, ob5), (4, ob6), (3, ob7), (2, ob8)], 467, (.int .i64 0), none, 479⟩
theorem k323 : e323.Ok Tryz.prog := okT (l := [e322]) (okC k322 okN) (by kernel_rfl)
def e324 : E := ⟨128, #[(.slice none 0 0)], [], 481, (.bool true), none, 481⟩
theorem k324 : e324.Ok Tryz.prog := okT (l := []) okN (by kernel_rfl)
def e325 : E := ⟨181, #[(.int .i64 1)], [], 482, (.bool true), none, 482⟩
theorem k325 : e325.Ok Tryz.prog := okT (l := []) okN (by kernel_rfl)
def e326 : E := ⟨129, #[(.agg #[(.int .i64 1), (.int .i64 1), (.int .i64 0), (.int .i64 100), (.int .i64 1900)])], [], 481, (.bool true), none, 482⟩
theorem k326 : e326.Ok Tryz.prog := okT (l := [e325]) (okC k325 okN) (by kernel_rfl)
def e327 : E := ⟨130, #[(.agg #[(.int .i64 1), (.int .i64 1), (.int .i64 0), (.int .i64 100), (.int .i64 1900)])], [], 482, (.bool true), none, 483⟩
theorem k327 : e327.Ok Tryz.prog := okT (l := []) okN (by kernel_rfl)
def e328 : E := ⟨131, #[(.pointer (some ⟨479, 0, none⟩)), (.pointer (some ⟨480, 0, none⟩))], [(480, ob76), (479, ob77)], 483, (.tuple #[(.int .i64 0), (.int .i64 0)]), none, 483⟩
theorem k328 : e328.Ok Tryz.prog := okT (l := []) okN (by kernel_rfl)
def e329 : E := ⟨130, #[(.agg #[(.int .i64 1), (.int .i64 1), (.int .i64 0), (.int .i64 100), (.int .i64 1900)])], [], 484, (.bool true), none, 485⟩
theorem k329 : e329.Ok Tryz.prog := okT (l := []) okN (by kernel_rfl)
def e330 : E := ⟨92, #[(.slice none 0 0), (.agg #[(.int .i64 1), (.int .i64 1), (.int .i64 0), (.int .i64 100), (.int .i64 1900)])], [], 479, (.tuple #[(.slice (some ⟨486, 0, none⟩) 1 1), (.int .i64 0)]), (some [(486, ob76)]), 487⟩
theorem k330 : e330.Ok Tryz.prog := okT (l := [e324, e326, e327, e328, e329]) (okC k324 (okC k326 (okC k327 (okC k328 (okC k329 okN))))) (by kernel_rfl)
def e331 : E := ⟨72, #[(.pointer (some ⟨47, 0, none⟩))], [(406, ob70), (393, ob60), (383, ob61), (377, ob43), (186, ob37), (184, ob5), (182, ob6), (179, ob38), (177, ob8), (164, ob17), (71, ob10), (47, ob73), (12, ob0), (11, ob1), (10, ob2), (8, ob3), (6, ob4), (5, ob5), (4, ob6), (3, ob7), (2, ob8)], 447, (.int .i64 0), (some [(486, ob76), (454, ob75), (453, ob61), (406, ob70), (393, ob60), (383, ob61), (377, ob43), (186, ob37), (184, ob5), (182, ob6), (179, ob38), (177, ob8), (164, ob17), (71, ob10), (47, ob78), (12, ob0), (11, ob1), (10, ob2), (8, ob3), (6, ob4), (5, ob5), (4, ob6), (3, ob7), (2, ob8)]), 487⟩
theorem k331 : e331.Ok Tryz.prog := okT (l := [e303, e323, e330]) (okC k303 (okC k323 (okC k330 okN))) (by kernel_rfl)
def e332 : E := ⟨71, #[(.pointer (some ⟨48, 0, none⟩))], [(406, ob70), (393, ob60), (383, ob61), (377, ob43), (186, ob37), (184, ob5), (182, ob6), (179, ob38), (177, ob8), (164, ob17), (71, ob10), (48, ob35), (47, ob73), (12, ob0), (11, ob1), (10, ob2), (8, ob3), (6, ob4), (5, ob5), (4, ob6), (3, ob7), (2, ob8)], 447, (.int .i64 0), (some [(486, ob76), (454, ob75), (453, ob61), (406, ob70), (393, ob60), (383, ob61), (377, ob43), (186, ob37), (184, ob5), (182, ob6), (179, ob38), (177, ob8), (164, ob17), (71, ob10), (48, ob35), (47, ob78), (12, ob0), (11, ob1), (10, ob2), (8, ob3), (6, ob4), (5, ob5), (4, ob6), (3, ob7), (2, ob8)]), 487⟩
theorem k332 : e332.Ok Tryz.prog := okT (l := [e331]) (okC k331 okN) (by kernel_rfl)
def e333 : E := ⟨61, #[(.func (.func 71) #[] #[(.pointer (some ⟨48, 0, none⟩))]), (.pointer (some ⟨49, 0, none⟩))], [(406, ob70), (393, ob60), (383, ob61), (377, ob43), (186, ob37), (184, ob5), (182, ob6), (179, ob38), (177, ob8), (164, ob17), (71, ob10), (49, ob36), (48, ob35), (47, ob73), (12, ob0), (11, ob1), (10, ob2), (8, ob3), (6, ob4), (5, ob5), (4, ob6), (3, ob7), (2, ob8)], 447, (.tuple #[]), (some [(486, ob76), (454, ob75), (453, ob61), (406, ob70), (393, ob60), (383, ob61), (377, ob43), (186, ob37), (184, ob5), (182, ob6), (179, ob38), (177, ob8), (164, ob17), (71, ob10), (49, ob36), (48, ob35), (47, ob78), (12, ob0), (11, ob1), (10, ob2), (8, ob3), (6, ob4), (5, ob5), (4, ob6), (3, ob7), (2, ob8)]), 487⟩
theorem k333 : e333.Ok Tryz.prog := okT (l := [e332]) (okC k332 okN) (by kernel_rfl)
def e334 : E := ⟨51, #[(.agg #[(.slice (some ⟨12, 0, none⟩) 4 4), (.slice (some ⟨10, 0, none⟩) 1 1), (.slice (some ⟨11, 0, none⟩) 1 1), (.slice none 0 0), (.slice none 0 0), (.slice none 0 0)]), (.agg #[(.slice none 0 0), (.slice none 0 0), (.slice none 0 0)]), (.agg #[(.int .i64 1), (.int .i64 1), (.int .i64 1), (.int .i64 1), (.string ⟨#[52, 57, 49, 49]⟩), (.string ⟨#[52, 57, 49, 50]⟩), (.int .i64 1000), (.int .i64 100), (.int .i64 0), (.bool false), (.int .i64 1), (.int .i64 1)])], [(12, ob0), (11, ob1), (10, ob2), (8, ob3), (6, ob4), (5, ob5), (4, ob6), (3, ob7), (2, ob8)], 42, (.tuple #[(.agg #[(.slice (some ⟨453, 0, none⟩) 1 1), (.slice (some ⟨454, 0, none⟩) 1 1), (.slice (some ⟨486, 0, none⟩) 1 1)]), (.agg #[(.int .i64 1), (.int .i64 1), (.int .i64 1), (.int .i64 1), (.string ⟨#[52, 57, 49, 49]⟩), (.string ⟨#[52, 57, 49, 50]⟩), (.int .i64 1000), (.int .i64 100), (.int .i64 0), (.bool false), (.int .i64 1), (.int .i64 1), (.int .i64 0), (.string ⟨#[98, 97, 115, 105, 99]⟩), (.int .i64 0), (.string ⟨#[104, 111, 109, 101]⟩), (.slice (some ⟨393, 0, none⟩) 1 1), (.slice (some ⟨406, 0, none⟩) 1 1), (.int .i64 500), (.int .i64 1900), (.int .i64 1900), (.slice none 0 0), (.int .i64 700), (.int .i64 1200)])]), (some [(486, ob76), (454, ob75), (453, ob61), (406, ob70), (393, ob60), (12, ob0), (11, ob1), (10, ob2), (8, ob3), (6, ob4), (5, ob5), (4, ob6), (3, ob7), (2, ob8)]), 487⟩
theorem k334 : e334.Ok Tryz.prog := okT (l := [e47, e67, e238, e277, e333]) (okC k47 (okC k67 (okC k238 (okC k277 (okC k333 okN))))) (by kernel_rfl)
def e335 : E := ⟨38, #[(.agg #[(.slice (some ⟨12, 0, none⟩) 4 4), (.slice (some ⟨10, 0, none⟩) 1 1), (.slice (some ⟨11, 0, none⟩) 1 1), (.slice none 0 0), (.slice none 0 0), (.slice none 0 0)]), (.agg #[(.slice none 0 0), (.slice none 0 0), (.slice none 0 0)]), (.slice (some ⟨29, 0, none⟩) 1 1)], [(29, ob9), (12, ob0), (11, ob1), (10, ob2), (8, ob3), (6, ob4), (5, ob5), (4, ob6), (3, ob7), (2, ob8)], 33, (.tuple #[(.agg #[(.slice (some ⟨453, 0, none⟩) 1 1), (.slice (some ⟨454, 0, none⟩) 1 1), (.slice (some ⟨486, 0, none⟩) 1 1)]), (.slice (some ⟨490, 0, none⟩) 1 1)]), (some [(490, ob79), (486, ob76), (454, ob75), (453, ob61), (406, ob70), (393, ob60), (29, ob9), (12, ob0), (11, ob1), (10, ob2), (8, ob3), (6, ob4), (5, ob5), (4, ob6), (3, ob7), (2, ob8)]), 491⟩
theorem k335 : e335.Ok Tryz.prog := okT (l := [e8, e9, e334]) (okC k8 (okC k9 (okC k334 okN))) (by kernel_rfl)
def e336 : E := ⟨24, #[(.agg #[(.slice (some ⟨12, 0, none⟩) 4 4), (.slice (some ⟨10, 0, none⟩) 1 1), (.slice (some ⟨11, 0, none⟩) 1 1), (.slice none 0 0), (.slice none 0 0), (.slice none 0 0)]), (.slice (some ⟨29, 0, none⟩) 1 1)], [(29, ob9), (12, ob0), (11, ob1), (10, ob2), (8, ob3), (6, ob4), (5, ob5), (4, ob6), (3, ob7), (2, ob8)], 31, (.tuple #[(.agg #[(.slice (some ⟨453, 0, none⟩) 1 1), (.slice (some ⟨454, 0, none⟩) 1 1), (.slice (some ⟨486, 0, none⟩) 1 1)]), (.slice (some ⟨490, 0, none⟩) 1 1)]), (some [(490, ob79), (486, ob76), (454, ob75), (453, ob61), (406, ob70), (393, ob60), (29, ob9), (12, ob0), (11, ob1), (10, ob2), (8, ob3), (6, ob4), (5, ob5), (4, ob6), (3, ob7), (2, ob8)]), 491⟩
theorem k336 : e336.Ok Tryz.prog := okT (l := [e335]) (okC k335 okN) (by kernel_rfl)
def e337 : E := ⟨41, #[(.agg #[(.int .i64 1), (.int .i64 1), (.int .i64 1), (.int .i64 1), (.string ⟨#[52, 57, 49, 49]⟩), (.string ⟨#[52, 57, 49, 50]⟩), (.int .i64 1000), (.int .i64 100), (.int .i64 0), (.bool false), (.int .i64 1), (.int .i64 1), (.int .i64 0), (.string ⟨#[98, 97, 115, 105, 99]⟩), (.int .i64 0), (.string ⟨#[104, 111, 109, 101]⟩), (.slice (some ⟨393, 0, none⟩) 1 1), (.slice (some ⟨406, 0, none⟩) 1 1), (.int .i64 500), (.int .i64 1900), (.int .i64 1900), (.slice none 0 0), (.int .i64 700), (.int .i64 1200)])], [(406, ob70), (393, ob60)], 494, (.int .i64 1), none, 495⟩
theorem k337 : e337.Ok Tryz.prog := okT (l := []) okN (by kernel_rfl)
def e338 : E := ⟨43, #[(.agg #[(.int .i64 1), (.int .i64 1), (.int .i64 1), (.int .i64 1), (.string ⟨#[52, 57, 49, 49]⟩), (.string ⟨#[52, 57, 49, 50]⟩), (.int .i64 1000), (.int .i64 100), (.int .i64 0), (.bool false), (.int .i64 1), (.int .i64 1), (.int .i64 0), (.string ⟨#[98, 97, 115, 105, 99]⟩), (.int .i64 0), (.string ⟨#[104, 111, 109, 101]⟩), (.slice (some ⟨393, 0, none⟩) 1 1), (.slice (some ⟨406, 0, none⟩) 1 1), (.int .i64 500), (.int .i64 1900), (.int .i64 1900), (.slice none 0 0), (.int .i64 700), (.int .i64 1200)])], [(406, ob70), (393, ob60)], 496, (.agg #[(.int .i64 1), (.int .i64 1), (.int .i64 1), (.int .i64 1), (.int .i64 1000), (.int .i64 700), (.int .i64 1200)]), none, 499⟩
theorem k338 : e338.Ok Tryz.prog := okT (l := []) okN (by kernel_rfl)
def e339 : E := ⟨42, #[(.pointer none), (.pointer (some ⟨493, 0, none⟩))], [(493, ob79), (406, ob70), (393, ob60)], 495, (.agg #[(.int .i64 1), (.int .i64 1), (.int .i64 1), (.int .i64 1), (.int .i64 1000), (.int .i64 700), (.int .i64 1200)]), none, 499⟩
theorem k339 : e339.Ok Tryz.prog := okT (l := [e338]) (okC k338 okN) (by kernel_rfl)
def e340 : E := ⟨54, #[(.slice (some ⟨500, 0, none⟩) 1 1)], [(500, ob80)], 501, (.slice (some ⟨503, 0, none⟩) 1 1), (some [(503, ob80), (500, ob80)]), 504⟩
theorem k340 : e340.Ok Tryz.prog := okT (l := []) okN (by kernel_rfl)
def e341 : E := ⟨40, #[(.slice none 0 0), (.slice (some ⟨490, 0, none⟩) 1 1), (.func (.func 41) #[] #[]), (.func (.func 42) #[] #[])], [(490, ob79), (406, ob70), (393, ob60)], 491, (.slice (some ⟨503, 0, none⟩) 1 1), (some [(503, ob80), (490, ob79), (406, ob70), (393, ob60)]), 504⟩
theorem k341 : e341.Ok Tryz.prog := okT (l := [e337, e339, e340]) (okC k337 (okC k339 (okC k340 okN))) (by kernel_rfl)
def e342 : E := ⟨26, #[(.slice none 0 0), (.slice (some ⟨490, 0, none⟩) 1 1)], [(490, ob79), (406, ob70), (393, ob60)], 491, (.slice (some ⟨503, 0, none⟩) 1 1), (some [(503, ob80), (490, ob79), (406, ob70), (393, ob60)]), 504⟩
theorem k342 : e342.Ok Tryz.prog := okT (l := [e341]) (okC k341 okN) (by kernel_rfl)
def e343 : E := ⟨9, #[(.agg #[(.slice (some ⟨12, 0, none⟩) 4 4), (.slice (some ⟨10, 0, none⟩) 1 1), (.slice (some ⟨11, 0, none⟩) 1 1), (.slice none 0 0), (.slice none 0 0), (.slice none 0 0)]), (.slice none 0 0), (.agg #[(.int .i64 1), (.int .i64 1), (.int .i64 1), (.int .i64 1), (.string ⟨#[52, 57, 49, 49]⟩), (.string ⟨#[52, 57, 49, 50]⟩), (.int .i64 1000), (.int .i64 100), (.int .i64 0), (.bool false), (.int .i64 1), (.int .i64 1)])], [(12, ob0), (11, ob1), (10, ob2), (8, ob3), (6, ob4), (5, ob5), (4, ob6), (3, ob7), (2, ob8)], 14, (.slice (some ⟨503, 0, none⟩) 1 1), (some [(503, ob80), (12, ob0), (11, ob1), (10, ob2), (8, ob3), (6, ob4), (5, ob5), (4, ob6), (3, ob7), (2, ob8)]), 504⟩
theorem k343 : e343.Ok Tryz.prog := okT (l := [e5, e7, e336, e342]) (okC k5 (okC k7 (okC k336 (okC k342 okN)))) (by kernel_rfl)
def e344 : E := ⟨12, #[(.slice none 0 0)], [], 506, (.int .i64 0), none, 507⟩
theorem k344 : e344.Ok Tryz.prog := okT (l := []) okN (by kernel_rfl)
def e345 : E := ⟨13, #[(.agg #[(.int .i64 0), (.int .i64 2678400)])], [], 507, (.bool true), none, 508⟩
theorem k345 : e345.Ok Tryz.prog := okT (l := []) okN (by kernel_rfl)
def e346 : E := ⟨14, #[(.slice none 0 0)], [], 508, (.slice none 0 0), none, 508⟩
theorem k346 : e346.Ok Tryz.prog := okT (l := []) okN (by kernel_rfl)
def e347 : E := ⟨45, #[(.slice none 0 0), (.int .i64 0), (.int .i64 0), (.func (.func 16) #[] #[])], [], 508, (.tuple #[]), none, 508⟩
theorem k347 : e347.Ok Tryz.prog := okT (l := []) okN (by kernel_rfl)
def e348 : E := ⟨30, #[(.slice none 0 0), (.int .i64 0), (.func (.func 16) #[] #[])], [], 508, (.tuple #[]), none, 508⟩
theorem k348 : e348.Ok Tryz.prog := okT (l := [e347]) (okC k347 okN) (by kernel_rfl)
def e349 : E := ⟨15, #[(.slice none 0 0), (.func (.func 16) #[] #[])], [], 508, (.tuple #[]), none, 508⟩
theorem k349 : e349.Ok Tryz.prog := okT (l := [e348]) (okC k348 okN) (by kernel_rfl)
def e350 : E := ⟨17, #[(.slice none 0 0), (.slice none 0 0), (.int .i64 7), (.agg #[(.int .i64 0), (.int .i64 2678400)])], [], 508, (.map (some 509)), (some [(509, ob14)]), 510⟩
theorem k350 : e350.Ok Tryz.prog := okT (l := []) okN (by kernel_rfl)
def e351 : E := ⟨19, #[(.int .i64 0)], [], 511, (.bool true), none, 511⟩
theorem k351 : e351.Ok Tryz.prog := okT (l := []) okN (by kernel_rfl)
def e352 : E := ⟨7, #[(.slice none 0 0), (.slice none 0 0), (.int .i64 7), (.agg #[(.int .i64 0), (.int .i64 2678400)])], [], 504, (.tuple #[(.agg #[(.int .i64 7), (.int .i64 0), (.int .i64 2678400), (.slice none 0 0), (.int .i64 0)]), (.int .i64 0)]), none, 511⟩
theorem k352 : e352.Ok Tryz.prog := okT (l := [e344, e345, e346, e349, e350, e351]) (okC k344 (okC k345 (okC k346 (okC k349 (okC k350 (okC k351 okN)))))) (by kernel_rfl)
def e353 : E := ⟨5, #[], [], 1, (.bool true), none, 512⟩
theorem k353 : e353.Ok Tryz.prog := okT (l := [e0, e1, e343, e352]) (okC k0 (okC k1 (okC k343 (okC k352 okN)))) (by kernel_rfl)
end Go.Proofs.YtmodghiokoiipaaGreat
