/- The types of this translation, as my own table; printed by gen_types.py. -/
import Derived.Test.YtebnccdegjdfiaaGV
import Derived.Test.YtebnccdegjdfiaaProg
import Derived.KernelRfl
namespace Go.Proofs.Ytebnccdegjdfiaa
open Go.GV
def ti2 : TI := ⟨1, [.int .i64 0], .int .i64, false⟩
theorem tiok2 : TIok Try.prog 2 ti2 := ⟨⟨_, Try.underlying2, rfl⟩, by kernel_rfl, rfl, fun _ => ⟨rfl, rfl⟩, fun h => (by cases h)⟩
def ti3 : TI := ⟨1, [.int .i64 0], .int .i64, false⟩
theorem tiok3 : TIok Try.prog 3 ti3 := ⟨⟨_, Try.underlying3, rfl⟩, by kernel_rfl, rfl, fun _ => ⟨rfl, rfl⟩, fun h => (by cases h)⟩
def ti4 : TI := ⟨1, [.bool false], .bool, false⟩
theorem tiok4 : TIok Try.prog 4 ti4 := ⟨⟨_, Try.underlying4, rfl⟩, by kernel_rfl, rfl, fun _ => ⟨rfl, rfl⟩, fun h => (by cases h)⟩
def ti5 : TI := ⟨1, [.int .u8 0], .int .u8, false⟩
theorem tiok5 : TIok Try.prog 5 ti5 := ⟨⟨_, Try.underlying5, rfl⟩, by kernel_rfl, rfl, fun _ => ⟨rfl, rfl⟩, fun h => (by cases h)⟩
def ti6 : TI := ⟨1, [.int .u8 0], .int .u8, false⟩
theorem tiok6 : TIok Try.prog 6 ti6 := ⟨⟨_, Try.underlying6, rfl⟩, by kernel_rfl, rfl, fun _ => ⟨rfl, rfl⟩, fun h => (by cases h)⟩
def ti9 : TI := ⟨1, [.string ⟨#[]⟩], .str, false⟩
theorem tiok9 : TIok Try.prog 9 ti9 := ⟨⟨_, Try.underlying9, rfl⟩, by kernel_rfl, rfl, fun _ => ⟨rfl, rfl⟩, fun h => (by cases h)⟩
def ti10 : TI := ⟨1, [.string ⟨#[]⟩], .str, false⟩
theorem tiok10 : TIok Try.prog 10 ti10 := ⟨⟨_, Try.underlying10, rfl⟩, by kernel_rfl, rfl, fun _ => ⟨rfl, rfl⟩, fun h => (by cases h)⟩
def ti11 : TI := ⟨1, [.string ⟨#[]⟩], .str, false⟩
theorem tiok11 : TIok Try.prog 11 ti11 := ⟨⟨_, Try.underlying11, rfl⟩, by kernel_rfl, rfl, fun _ => ⟨rfl, rfl⟩, fun h => (by cases h)⟩
def ti31 : TI := ⟨1, [.int .i64 0], .int .i64, false⟩
theorem tiok31 : TIok Try.prog 31 ti31 := ⟨⟨_, Try.underlying31, rfl⟩, by kernel_rfl, rfl, fun _ => ⟨rfl, rfl⟩, fun h => (by cases h)⟩
def ti135 : TI := ⟨1, [.int .u8 0], .int .u8, false⟩
theorem tiok135 : TIok Try.prog 135 ti135 := ⟨⟨_, Try.underlying135, rfl⟩, by kernel_rfl, rfl, fun _ => ⟨rfl, rfl⟩, fun h => (by cases h)⟩
def ti136 : TI := ⟨1, [.int .u8 0], .int .u8, false⟩
theorem tiok136 : TIok Try.prog 136 ti136 := ⟨⟨_, Try.underlying136, rfl⟩, by kernel_rfl, rfl, fun _ => ⟨rfl, rfl⟩, fun h => (by cases h)⟩
def ti7 : TI := ⟨4, [.int .i64 0, .int .i64 0, .bool false, .int .u8 0], .strct [(0, 2), (1, 3), (2, 4), (3, 6)], false⟩
theorem tiok7 : TIok Try.prog 7 ti7 := ⟨⟨_, Try.underlying7, _, rfl, rfl⟩, by kernel_rfl, rfl, fun h => (by cases h), fun h => (by cases h)⟩
def ti8 : TI := ⟨4, [.int .i64 0, .int .i64 0, .bool false, .int .u8 0], .strct [(0, 2), (1, 3), (2, 4), (3, 6)], false⟩
theorem tiok8 : TIok Try.prog 8 ti8 := ⟨⟨_, Try.underlying8, _, rfl, rfl⟩, by kernel_rfl, rfl, fun h => (by cases h), fun h => (by cases h)⟩
def ti13 : TI := ⟨2, [.string ⟨#[]⟩, .int .u64 0], .strct [(0, 9), (1, 12)], false⟩
theorem tiok13 : TIok Try.prog 13 ti13 := ⟨⟨_, Try.underlying13, _, rfl, rfl⟩, by kernel_rfl, rfl, fun h => (by cases h), fun h => (by cases h)⟩
def ti14 : TI := ⟨2, [.string ⟨#[]⟩, .int .u64 0], .strct [(0, 9), (1, 12)], false⟩
theorem tiok14 : TIok Try.prog 14 ti14 := ⟨⟨_, Try.underlying14, _, rfl, rfl⟩, by kernel_rfl, rfl, fun h => (by cases h), fun h => (by cases h)⟩
def ti18 : TI := ⟨1, [.pointer none], .strct [(0, 17)], false⟩
theorem tiok18 : TIok Try.prog 18 ti18 := ⟨⟨_, Try.underlying18, _, rfl, rfl⟩, by kernel_rfl, rfl, fun h => (by cases h), fun h => (by cases h)⟩
def ti19 : TI := ⟨1, [.pointer none], .strct [(0, 17)], false⟩
theorem tiok19 : TIok Try.prog 19 ti19 := ⟨⟨_, Try.underlying19, _, rfl, rfl⟩, by kernel_rfl, rfl, fun h => (by cases h), fun h => (by cases h)⟩
def ti22 : TI := ⟨1, [.slice none 0 0], .slice 26, false⟩
theorem tiok22 : TIok Try.prog 22 ti22 := ⟨⟨_, Try.underlying22, rfl⟩, by kernel_rfl, rfl, fun _ => ⟨rfl, rfl⟩, fun h => (by cases h)⟩
def ti25 : TI := ⟨5, [.int .i64 0, .string ⟨#[]⟩, .int .i64 0, .int .i64 0, .bool false], .strct [(0, 3), (1, 9), (2, 3), (3, 3), (4, 4)], true⟩
theorem tiok25 : TIok Try.prog 25 ti25 := ⟨⟨_, Try.underlying25, _, rfl, rfl⟩, by kernel_rfl, rfl, fun h => (by cases h), fun _ => ⟨by kernel_rfl, by kernel_rfl, by kernel_rfl⟩⟩
def ti26 : TI := ⟨5, [.int .i64 0, .string ⟨#[]⟩, .int .i64 0, .int .i64 0, .bool false], .strct [(0, 3), (1, 9), (2, 3), (3, 3), (4, 4)], true⟩
theorem tiok26 : TIok Try.prog 26 ti26 := ⟨⟨_, Try.underlying26, _, rfl, rfl⟩, by kernel_rfl, rfl, fun h => (by cases h), fun _ => ⟨by kernel_rfl, by kernel_rfl, by kernel_rfl⟩⟩
def ti28 : TI := ⟨1, [.slice none 0 0], .slice 43, false⟩
theorem tiok28 : TIok Try.prog 28 ti28 := ⟨⟨_, Try.underlying28, rfl⟩, by kernel_rfl, rfl, fun _ => ⟨rfl, rfl⟩, fun h => (by cases h)⟩
def ti30 : TI := ⟨1, [.slice none 0 0], .slice 3, false⟩
theorem tiok30 : TIok Try.prog 30 ti30 := ⟨⟨_, Try.underlying30, rfl⟩, by kernel_rfl, rfl, fun _ => ⟨rfl, rfl⟩, fun h => (by cases h)⟩
def ti42 : TI := ⟨3, [.bool false, .string ⟨#[]⟩, .slice none 0 0], .strct [(0, 4), (1, 9), (2, 22)], false⟩
theorem tiok42 : TIok Try.prog 42 ti42 := ⟨⟨_, Try.underlying42, _, rfl, rfl⟩, by kernel_rfl, rfl, fun h => (by cases h), fun h => (by cases h)⟩
def ti43 : TI := ⟨3, [.bool false, .string ⟨#[]⟩, .slice none 0 0], .strct [(0, 4), (1, 9), (2, 22)], false⟩
theorem tiok43 : TIok Try.prog 43 ti43 := ⟨⟨_, Try.underlying43, _, rfl, rfl⟩, by kernel_rfl, rfl, fun h => (by cases h), fun h => (by cases h)⟩
def ti56 : TI := ⟨1, [.slice none 0 0], .slice 9, false⟩
theorem tiok56 : TIok Try.prog 56 ti56 := ⟨⟨_, Try.underlying56, rfl⟩, by kernel_rfl, rfl, fun _ => ⟨rfl, rfl⟩, fun h => (by cases h)⟩
def ti58 : TI := ⟨1, [.slice none 0 0], .slice 5, false⟩
theorem tiok58 : TIok Try.prog 58 ti58 := ⟨⟨_, Try.underlying58, rfl⟩, by kernel_rfl, rfl, fun _ => ⟨rfl, rfl⟩, fun h => (by cases h)⟩
def ti63 : TI := ⟨1, [.slice none 0 0], .slice 4, false⟩
theorem tiok63 : TIok Try.prog 63 ti63 := ⟨⟨_, Try.underlying63, rfl⟩, by kernel_rfl, rfl, fun _ => ⟨rfl, rfl⟩, fun h => (by cases h)⟩
def ti75 : TI := ⟨3, [.int .i64 0, .int .i64 0, .int .i64 0], .strct [(0, 3), (1, 3), (2, 3)], true⟩
theorem tiok75 : TIok Try.prog 75 ti75 := ⟨⟨_, Try.underlying75, _, rfl, rfl⟩, by kernel_rfl, rfl, fun h => (by cases h), fun _ => ⟨by kernel_rfl, by kernel_rfl, by kernel_rfl⟩⟩
def ti76 : TI := ⟨3, [.int .i64 0, .int .i64 0, .int .i64 0], .strct [(0, 3), (1, 3), (2, 3)], true⟩
theorem tiok76 : TIok Try.prog 76 ti76 := ⟨⟨_, Try.underlying76, _, rfl, rfl⟩, by kernel_rfl, rfl, fun h => (by cases h), fun _ => ⟨by kernel_rfl, by kernel_rfl, by kernel_rfl⟩⟩
def ti79 : TI := ⟨1, [.slice none 0 0], .slice 83, false⟩
theorem tiok79 : TIok Try.prog 79 ti79 := ⟨⟨_, Try.underlying79, rfl⟩, by kernel_rfl, rfl, fun _ => ⟨rfl, rfl⟩, fun h => (by cases h)⟩
def ti82 : TI := ⟨3, [.int .u8 0, .int .i64 0, .int .i64 0], .strct [(0, 5), (1, 3), (2, 3)], true⟩
theorem tiok82 : TIok Try.prog 82 ti82 := ⟨⟨_, Try.underlying82, _, rfl, rfl⟩, by kernel_rfl, rfl, fun h => (by cases h), fun _ => ⟨by kernel_rfl, by kernel_rfl, by kernel_rfl⟩⟩
def ti83 : TI := ⟨3, [.int .u8 0, .int .i64 0, .int .i64 0], .strct [(0, 5), (1, 3), (2, 3)], true⟩
theorem tiok83 : TIok Try.prog 83 ti83 := ⟨⟨_, Try.underlying83, _, rfl, rfl⟩, by kernel_rfl, rfl, fun h => (by cases h), fun _ => ⟨by kernel_rfl, by kernel_rfl, by kernel_rfl⟩⟩
def ti85 : TI := ⟨2, [.pointer none, .slice none 0 0], .strct [(0, 84), (1, 58)], false⟩
theorem tiok85 : TIok Try.prog 85 ti85 := ⟨⟨_, Try.underlying85, _, rfl, rfl⟩, by kernel_rfl, rfl, fun h => (by cases h), fun h => (by cases h)⟩
def ti86 : TI := ⟨2, [.pointer none, .slice none 0 0], .strct [(0, 84), (1, 58)], false⟩
theorem tiok86 : TIok Try.prog 86 ti86 := ⟨⟨_, Try.underlying86, _, rfl, rfl⟩, by kernel_rfl, rfl, fun h => (by cases h), fun h => (by cases h)⟩
def ti95 : TI := ⟨3, [.int .i64 0, .string ⟨#[]⟩, .bool false], .strct [(0, 3), (1, 9), (2, 4)], true⟩
theorem tiok95 : TIok Try.prog 95 ti95 := ⟨⟨_, Try.underlying95, _, rfl, rfl⟩, by kernel_rfl, rfl, fun h => (by cases h), fun _ => ⟨by kernel_rfl, by kernel_rfl, by kernel_rfl⟩⟩
def ti96 : TI := ⟨3, [.int .i64 0, .string ⟨#[]⟩, .bool false], .strct [(0, 3), (1, 9), (2, 4)], true⟩
theorem tiok96 : TIok Try.prog 96 ti96 := ⟨⟨_, Try.underlying96, _, rfl, rfl⟩, by kernel_rfl, rfl, fun h => (by cases h), fun _ => ⟨by kernel_rfl, by kernel_rfl, by kernel_rfl⟩⟩
def ti109 : TI := ⟨4, [.int .u8 0, .int .i64 0, .int .i64 0, .bool false], .strct [(0, 83), (3, 4)], true⟩
theorem tiok109 : TIok Try.prog 109 ti109 := ⟨⟨_, Try.underlying109, _, rfl, rfl⟩, by kernel_rfl, rfl, fun h => (by cases h), fun _ => ⟨by kernel_rfl, by kernel_rfl, by kernel_rfl⟩⟩
def ti110 : TI := ⟨4, [.int .u8 0, .int .i64 0, .int .i64 0, .bool false], .strct [(0, 83), (3, 4)], true⟩
theorem tiok110 : TIok Try.prog 110 ti110 := ⟨⟨_, Try.underlying110, _, rfl, rfl⟩, by kernel_rfl, rfl, fun h => (by cases h), fun _ => ⟨by kernel_rfl, by kernel_rfl, by kernel_rfl⟩⟩
def ti130 : TI := ⟨4, [.pointer none, .pointer none, .pointer none, .string ⟨#[]⟩], .strct [(0, 17), (1, 17), (2, 17), (3, 9)], false⟩
theorem tiok130 : TIok Try.prog 130 ti130 := ⟨⟨_, Try.underlying130, _, rfl, rfl⟩, by kernel_rfl, rfl, fun h => (by cases h), fun h => (by cases h)⟩
def ti131 : TI := ⟨4, [.pointer none, .pointer none, .pointer none, .string ⟨#[]⟩], .strct [(0, 17), (1, 17), (2, 17), (3, 9)], false⟩
theorem tiok131 : TIok Try.prog 131 ti131 := ⟨⟨_, Try.underlying131, _, rfl, rfl⟩, by kernel_rfl, rfl, fun h => (by cases h), fun h => (by cases h)⟩
def ti140 : TI := ⟨11, [.int .u64 0, .int .u64 0, .int .u32 0, .int .u8 0, .int .u8 0, .int .u8 0, .int .u8 0, .nilFunc, .pointer none, .int .i32 0, .int .i32 0], .strct [(0, 12), (1, 12), (2, 127), (3, 135), (4, 5), (5, 5), (6, 136), (7, 137), (8, 113), (9, 138), (10, 139)], false⟩
theorem tiok140 : TIok Try.prog 140 ti140 := ⟨⟨_, Try.underlying140, _, rfl, rfl⟩, by kernel_rfl, rfl, fun h => (by cases h), fun h => (by cases h)⟩
def ti141 : TI := ⟨11, [.int .u64 0, .int .u64 0, .int .u32 0, .int .u8 0, .int .u8 0, .int .u8 0, .int .u8 0, .nilFunc, .pointer none, .int .i32 0, .int .i32 0], .strct [(0, 12), (1, 12), (2, 127), (3, 135), (4, 5), (5, 5), (6, 136), (7, 137), (8, 113), (9, 138), (10, 139)], false⟩
theorem tiok141 : TIok Try.prog 141 ti141 := ⟨⟨_, Try.underlying141, _, rfl, rfl⟩, by kernel_rfl, rfl, fun h => (by cases h), fun h => (by cases h)⟩
def ti1 : TI := ⟨1, [.nilFunc], .other, false⟩
theorem tiok1 : TIok Try.prog 1 ti1 := ⟨⟨_, Try.underlying1, fun _ h => (by cases h), fun _ _ h => (by cases h)⟩, by kernel_rfl, rfl, fun _ => ⟨rfl, rfl⟩, fun h => (by cases h)⟩
def ti12 : TI := ⟨1, [.int .u64 0], .int .u64, false⟩
theorem tiok12 : TIok Try.prog 12 ti12 := ⟨⟨_, Try.underlying12, rfl⟩, by kernel_rfl, rfl, fun _ => ⟨rfl, rfl⟩, fun h => (by cases h)⟩
def ti15 : TI := ⟨1, [.pointer none], .other, false⟩
theorem tiok15 : TIok Try.prog 15 ti15 := ⟨⟨_, Try.underlying15, fun _ h => (by cases h), fun _ _ h => (by cases h)⟩, by kernel_rfl, rfl, fun _ => ⟨rfl, rfl⟩, fun h => (by cases h)⟩
def ti16 : TI := ⟨1, [.pointer none], .other, false⟩
theorem tiok16 : TIok Try.prog 16 ti16 := ⟨⟨_, Try.underlying16, fun _ h => (by cases h), fun _ _ h => (by cases h)⟩, by kernel_rfl, rfl, fun _ => ⟨rfl, rfl⟩, fun h => (by cases h)⟩
def ti17 : TI := ⟨1, [.pointer none], .other, false⟩
theorem tiok17 : TIok Try.prog 17 ti17 := ⟨⟨_, Try.underlying17, fun _ h => (by cases h), fun _ _ h => (by cases h)⟩, by kernel_rfl, rfl, fun _ => ⟨rfl, rfl⟩, fun h => (by cases h)⟩
def ti20 : TI := ⟨1, [.nilIface], .other, false⟩
theorem tiok20 : TIok Try.prog 20 ti20 := ⟨⟨_, Try.underlying20, fun _ h => (by cases h), fun _ _ h => (by cases h)⟩, by kernel_rfl, rfl, fun _ => ⟨rfl, rfl⟩, fun h => (by cases h)⟩
def ti21 : TI := ⟨1, [.int .i32 0], .int .i32, false⟩
theorem tiok21 : TIok Try.prog 21 ti21 := ⟨⟨_, Try.underlying21, rfl⟩, by kernel_rfl, rfl, fun _ => ⟨rfl, rfl⟩, fun h => (by cases h)⟩
def ti23 : TI := ⟨1, [.nilFunc], .other, false⟩
theorem tiok23 : TIok Try.prog 23 ti23 := ⟨⟨_, Try.underlying23, fun _ h => (by cases h), fun _ _ h => (by cases h)⟩, by kernel_rfl, rfl, fun _ => ⟨rfl, rfl⟩, fun h => (by cases h)⟩
def ti24 : TI := ⟨1, [.nilFunc], .other, false⟩
theorem tiok24 : TIok Try.prog 24 ti24 := ⟨⟨_, Try.underlying24, fun _ h => (by cases h), fun _ _ h => (by cases h)⟩, by kernel_rfl, rfl, fun _ => ⟨rfl, rfl⟩, fun h => (by cases h)⟩
def ti27 : TI := ⟨1, [.nilFunc], .other, false⟩
theorem tiok27 : TIok Try.prog 27 ti27 := ⟨⟨_, Try.underlying27, fun _ h => (by cases h), fun _ _ h => (by cases h)⟩, by kernel_rfl, rfl, fun _ => ⟨rfl, rfl⟩, fun h => (by cases h)⟩
def ti29 : TI := ⟨1, [.nilFunc], .other, false⟩
theorem tiok29 : TIok Try.prog 29 ti29 := ⟨⟨_, Try.underlying29, fun _ h => (by cases h), fun _ _ h => (by cases h)⟩, by kernel_rfl, rfl, fun _ => ⟨rfl, rfl⟩, fun h => (by cases h)⟩
def ti33 : TI := ⟨1, [.nilFunc], .other, false⟩
theorem tiok33 : TIok Try.prog 33 ti33 := ⟨⟨_, Try.underlying33, fun _ h => (by cases h), fun _ _ h => (by cases h)⟩, by kernel_rfl, rfl, fun _ => ⟨rfl, rfl⟩, fun h => (by cases h)⟩
def ti35 : TI := ⟨1, [.nilFunc], .other, false⟩
theorem tiok35 : TIok Try.prog 35 ti35 := ⟨⟨_, Try.underlying35, fun _ h => (by cases h), fun _ _ h => (by cases h)⟩, by kernel_rfl, rfl, fun _ => ⟨rfl, rfl⟩, fun h => (by cases h)⟩
def ti36 : TI := ⟨1, [.nilFunc], .other, false⟩
theorem tiok36 : TIok Try.prog 36 ti36 := ⟨⟨_, Try.underlying36, fun _ h => (by cases h), fun _ _ h => (by cases h)⟩, by kernel_rfl, rfl, fun _ => ⟨rfl, rfl⟩, fun h => (by cases h)⟩
def ti37 : TI := ⟨1, [.nilFunc], .other, false⟩
theorem tiok37 : TIok Try.prog 37 ti37 := ⟨⟨_, Try.underlying37, fun _ h => (by cases h), fun _ _ h => (by cases h)⟩, by kernel_rfl, rfl, fun _ => ⟨rfl, rfl⟩, fun h => (by cases h)⟩
def ti38 : TI := ⟨1, [.nilFunc], .other, false⟩
theorem tiok38 : TIok Try.prog 38 ti38 := ⟨⟨_, Try.underlying38, fun _ h => (by cases h), fun _ _ h => (by cases h)⟩, by kernel_rfl, rfl, fun _ => ⟨rfl, rfl⟩, fun h => (by cases h)⟩
def ti39 : TI := ⟨1, [.nilFunc], .other, false⟩
theorem tiok39 : TIok Try.prog 39 ti39 := ⟨⟨_, Try.underlying39, fun _ h => (by cases h), fun _ _ h => (by cases h)⟩, by kernel_rfl, rfl, fun _ => ⟨rfl, rfl⟩, fun h => (by cases h)⟩
def ti40 : TI := ⟨1, [.nilFunc], .other, false⟩
theorem tiok40 : TIok Try.prog 40 ti40 := ⟨⟨_, Try.underlying40, fun _ h => (by cases h), fun _ _ h => (by cases h)⟩, by kernel_rfl, rfl, fun _ => ⟨rfl, rfl⟩, fun h => (by cases h)⟩
def ti41 : TI := ⟨1, [.nilFunc], .other, false⟩
theorem tiok41 : TIok Try.prog 41 ti41 := ⟨⟨_, Try.underlying41, fun _ h => (by cases h), fun _ _ h => (by cases h)⟩, by kernel_rfl, rfl, fun _ => ⟨rfl, rfl⟩, fun h => (by cases h)⟩
def ti45 : TI := ⟨1, [.nilFunc], .other, false⟩
theorem tiok45 : TIok Try.prog 45 ti45 := ⟨⟨_, Try.underlying45, fun _ h => (by cases h), fun _ _ h => (by cases h)⟩, by kernel_rfl, rfl, fun _ => ⟨rfl, rfl⟩, fun h => (by cases h)⟩
def ti47 : TI := ⟨1, [.nilFunc], .other, false⟩
theorem tiok47 : TIok Try.prog 47 ti47 := ⟨⟨_, Try.underlying47, fun _ h => (by cases h), fun _ _ h => (by cases h)⟩, by kernel_rfl, rfl, fun _ => ⟨rfl, rfl⟩, fun h => (by cases h)⟩
def ti49 : TI := ⟨1, [.nilFunc], .other, false⟩
theorem tiok49 : TIok Try.prog 49 ti49 := ⟨⟨_, Try.underlying49, fun _ h => (by cases h), fun _ _ h => (by cases h)⟩, by kernel_rfl, rfl, fun _ => ⟨rfl, rfl⟩, fun h => (by cases h)⟩
def ti50 : TI := ⟨1, [.nilFunc], .other, false⟩
theorem tiok50 : TIok Try.prog 50 ti50 := ⟨⟨_, Try.underlying50, fun _ h => (by cases h), fun _ _ h => (by cases h)⟩, by kernel_rfl, rfl, fun _ => ⟨rfl, rfl⟩, fun h => (by cases h)⟩
def ti51 : TI := ⟨1, [.nilFunc], .other, false⟩
theorem tiok51 : TIok Try.prog 51 ti51 := ⟨⟨_, Try.underlying51, fun _ h => (by cases h), fun _ _ h => (by cases h)⟩, by kernel_rfl, rfl, fun _ => ⟨rfl, rfl⟩, fun h => (by cases h)⟩
def ti53 : TI := ⟨1, [.nilFunc], .other, false⟩
theorem tiok53 : TIok Try.prog 53 ti53 := ⟨⟨_, Try.underlying53, fun _ h => (by cases h), fun _ _ h => (by cases h)⟩, by kernel_rfl, rfl, fun _ => ⟨rfl, rfl⟩, fun h => (by cases h)⟩
def ti54 : TI := ⟨1, [.nilFunc], .other, false⟩
theorem tiok54 : TIok Try.prog 54 ti54 := ⟨⟨_, Try.underlying54, fun _ h => (by cases h), fun _ _ h => (by cases h)⟩, by kernel_rfl, rfl, fun _ => ⟨rfl, rfl⟩, fun h => (by cases h)⟩
def ti55 : TI := ⟨1, [.nilFunc], .other, false⟩
theorem tiok55 : TIok Try.prog 55 ti55 := ⟨⟨_, Try.underlying55, fun _ h => (by cases h), fun _ _ h => (by cases h)⟩, by kernel_rfl, rfl, fun _ => ⟨rfl, rfl⟩, fun h => (by cases h)⟩
def ti57 : TI := ⟨1, [.nilFunc], .other, false⟩
theorem tiok57 : TIok Try.prog 57 ti57 := ⟨⟨_, Try.underlying57, fun _ h => (by cases h), fun _ _ h => (by cases h)⟩, by kernel_rfl, rfl, fun _ => ⟨rfl, rfl⟩, fun h => (by cases h)⟩
def ti60 : TI := ⟨1, [.nilFunc], .other, false⟩
theorem tiok60 : TIok Try.prog 60 ti60 := ⟨⟨_, Try.underlying60, fun _ h => (by cases h), fun _ _ h => (by cases h)⟩, by kernel_rfl, rfl, fun _ => ⟨rfl, rfl⟩, fun h => (by cases h)⟩
def ti61 : TI := ⟨1, [.nilFunc], .other, false⟩
theorem tiok61 : TIok Try.prog 61 ti61 := ⟨⟨_, Try.underlying61, fun _ h => (by cases h), fun _ _ h => (by cases h)⟩, by kernel_rfl, rfl, fun _ => ⟨rfl, rfl⟩, fun h => (by cases h)⟩
def ti62 : TI := ⟨1, [.nilFunc], .other, false⟩
theorem tiok62 : TIok Try.prog 62 ti62 := ⟨⟨_, Try.underlying62, fun _ h => (by cases h), fun _ _ h => (by cases h)⟩, by kernel_rfl, rfl, fun _ => ⟨rfl, rfl⟩, fun h => (by cases h)⟩
def ti64 : TI := ⟨1, [.nilFunc], .other, false⟩
theorem tiok64 : TIok Try.prog 64 ti64 := ⟨⟨_, Try.underlying64, fun _ h => (by cases h), fun _ _ h => (by cases h)⟩, by kernel_rfl, rfl, fun _ => ⟨rfl, rfl⟩, fun h => (by cases h)⟩
def ti65 : TI := ⟨1, [.nilFunc], .other, false⟩
theorem tiok65 : TIok Try.prog 65 ti65 := ⟨⟨_, Try.underlying65, fun _ h => (by cases h), fun _ _ h => (by cases h)⟩, by kernel_rfl, rfl, fun _ => ⟨rfl, rfl⟩, fun h => (by cases h)⟩
def ti66 : TI := ⟨1, [.nilFunc], .other, false⟩
theorem tiok66 : TIok Try.prog 66 ti66 := ⟨⟨_, Try.underlying66, fun _ h => (by cases h), fun _ _ h => (by cases h)⟩, by kernel_rfl, rfl, fun _ => ⟨rfl, rfl⟩, fun h => (by cases h)⟩
def ti67 : TI := ⟨1, [.nilFunc], .other, false⟩
theorem tiok67 : TIok Try.prog 67 ti67 := ⟨⟨_, Try.underlying67, fun _ h => (by cases h), fun _ _ h => (by cases h)⟩, by kernel_rfl, rfl, fun _ => ⟨rfl, rfl⟩, fun h => (by cases h)⟩
def ti68 : TI := ⟨1, [.nilFunc], .other, false⟩
theorem tiok68 : TIok Try.prog 68 ti68 := ⟨⟨_, Try.underlying68, fun _ h => (by cases h), fun _ _ h => (by cases h)⟩, by kernel_rfl, rfl, fun _ => ⟨rfl, rfl⟩, fun h => (by cases h)⟩
def ti70 : TI := ⟨1, [.nilFunc], .other, false⟩
theorem tiok70 : TIok Try.prog 70 ti70 := ⟨⟨_, Try.underlying70, fun _ h => (by cases h), fun _ _ h => (by cases h)⟩, by kernel_rfl, rfl, fun _ => ⟨rfl, rfl⟩, fun h => (by cases h)⟩
def ti71 : TI := ⟨1, [.pointer none], .other, false⟩
theorem tiok71 : TIok Try.prog 71 ti71 := ⟨⟨_, Try.underlying71, fun _ h => (by cases h), fun _ _ h => (by cases h)⟩, by kernel_rfl, rfl, fun _ => ⟨rfl, rfl⟩, fun h => (by cases h)⟩
def ti72 : TI := ⟨1, [.nilFunc], .other, false⟩
theorem tiok72 : TIok Try.prog 72 ti72 := ⟨⟨_, Try.underlying72, fun _ h => (by cases h), fun _ _ h => (by cases h)⟩, by kernel_rfl, rfl, fun _ => ⟨rfl, rfl⟩, fun h => (by cases h)⟩
def ti73 : TI := ⟨1, [.nilFunc], .other, false⟩
theorem tiok73 : TIok Try.prog 73 ti73 := ⟨⟨_, Try.underlying73, fun _ h => (by cases h), fun _ _ h => (by cases h)⟩, by kernel_rfl, rfl, fun _ => ⟨rfl, rfl⟩, fun h => (by cases h)⟩
def ti74 : TI := ⟨1, [.nilFunc], .other, false⟩
theorem tiok74 : TIok Try.prog 74 ti74 := ⟨⟨_, Try.underlying74, fun _ h => (by cases h), fun _ _ h => (by cases h)⟩, by kernel_rfl, rfl, fun _ => ⟨rfl, rfl⟩, fun h => (by cases h)⟩
def ti78 : TI := ⟨1, [.nilFunc], .other, false⟩
theorem tiok78 : TIok Try.prog 78 ti78 := ⟨⟨_, Try.underlying78, fun _ h => (by cases h), fun _ _ h => (by cases h)⟩, by kernel_rfl, rfl, fun _ => ⟨rfl, rfl⟩, fun h => (by cases h)⟩
def ti81 : TI := ⟨1, [.nilFunc], .other, false⟩
theorem tiok81 : TIok Try.prog 81 ti81 := ⟨⟨_, Try.underlying81, fun _ h => (by cases h), fun _ _ h => (by cases h)⟩, by kernel_rfl, rfl, fun _ => ⟨rfl, rfl⟩, fun h => (by cases h)⟩
def ti84 : TI := ⟨1, [.pointer none], .other, false⟩
theorem tiok84 : TIok Try.prog 84 ti84 := ⟨⟨_, Try.underlying84, fun _ h => (by cases h), fun _ _ h => (by cases h)⟩, by kernel_rfl, rfl, fun _ => ⟨rfl, rfl⟩, fun h => (by cases h)⟩
def ti87 : TI := ⟨1, [.nilIface], .other, false⟩
theorem tiok87 : TIok Try.prog 87 ti87 := ⟨⟨_, Try.underlying87, fun _ h => (by cases h), fun _ _ h => (by cases h)⟩, by kernel_rfl, rfl, fun _ => ⟨rfl, rfl⟩, fun h => (by cases h)⟩
def ti88 : TI := ⟨1, [.nilIface], .other, false⟩
theorem tiok88 : TIok Try.prog 88 ti88 := ⟨⟨_, Try.underlying88, fun _ h => (by cases h), fun _ _ h => (by cases h)⟩, by kernel_rfl, rfl, fun _ => ⟨rfl, rfl⟩, fun h => (by cases h)⟩
def ti89 : TI := ⟨1, [.nilFunc], .other, false⟩
theorem tiok89 : TIok Try.prog 89 ti89 := ⟨⟨_, Try.underlying89, fun _ h => (by cases h), fun _ _ h => (by cases h)⟩, by kernel_rfl, rfl, fun _ => ⟨rfl, rfl⟩, fun h => (by cases h)⟩
def ti90 : TI := ⟨1, [.nilFunc], .other, false⟩
theorem tiok90 : TIok Try.prog 90 ti90 := ⟨⟨_, Try.underlying90, fun _ h => (by cases h), fun _ _ h => (by cases h)⟩, by kernel_rfl, rfl, fun _ => ⟨rfl, rfl⟩, fun h => (by cases h)⟩
def ti92 : TI := ⟨1, [.nilFunc], .other, false⟩
theorem tiok92 : TIok Try.prog 92 ti92 := ⟨⟨_, Try.underlying92, fun _ h => (by cases h), fun _ _ h => (by cases h)⟩, by kernel_rfl, rfl, fun _ => ⟨rfl, rfl⟩, fun h => (by cases h)⟩
def ti93 : TI := ⟨1, [.nilFunc], .other, false⟩
theorem tiok93 : TIok Try.prog 93 ti93 := ⟨⟨_, Try.underlying93, fun _ h => (by cases h), fun _ _ h => (by cases h)⟩, by kernel_rfl, rfl, fun _ => ⟨rfl, rfl⟩, fun h => (by cases h)⟩
def ti94 : TI := ⟨1, [.nilFunc], .other, false⟩
theorem tiok94 : TIok Try.prog 94 ti94 := ⟨⟨_, Try.underlying94, fun _ h => (by cases h), fun _ _ h => (by cases h)⟩, by kernel_rfl, rfl, fun _ => ⟨rfl, rfl⟩, fun h => (by cases h)⟩
def ti97 : TI := ⟨1, [.nilFunc], .other, false⟩
theorem tiok97 : TIok Try.prog 97 ti97 := ⟨⟨_, Try.underlying97, fun _ h => (by cases h), fun _ _ h => (by cases h)⟩, by kernel_rfl, rfl, fun _ => ⟨rfl, rfl⟩, fun h => (by cases h)⟩
def ti98 : TI := ⟨1, [.nilFunc], .other, false⟩
theorem tiok98 : TIok Try.prog 98 ti98 := ⟨⟨_, Try.underlying98, fun _ h => (by cases h), fun _ _ h => (by cases h)⟩, by kernel_rfl, rfl, fun _ => ⟨rfl, rfl⟩, fun h => (by cases h)⟩
def ti100 : TI := ⟨1, [.nilFunc], .other, false⟩
theorem tiok100 : TIok Try.prog 100 ti100 := ⟨⟨_, Try.underlying100, fun _ h => (by cases h), fun _ _ h => (by cases h)⟩, by kernel_rfl, rfl, fun _ => ⟨rfl, rfl⟩, fun h => (by cases h)⟩
def ti101 : TI := ⟨1, [.nilFunc], .other, false⟩
theorem tiok101 : TIok Try.prog 101 ti101 := ⟨⟨_, Try.underlying101, fun _ h => (by cases h), fun _ _ h => (by cases h)⟩, by kernel_rfl, rfl, fun _ => ⟨rfl, rfl⟩, fun h => (by cases h)⟩
def ti102 : TI := ⟨1, [.nilFunc], .other, false⟩
theorem tiok102 : TIok Try.prog 102 ti102 := ⟨⟨_, Try.underlying102, fun _ h => (by cases h), fun _ _ h => (by cases h)⟩, by kernel_rfl, rfl, fun _ => ⟨rfl, rfl⟩, fun h => (by cases h)⟩
def ti104 : TI := ⟨1, [.nilFunc], .other, false⟩
theorem tiok104 : TIok Try.prog 104 ti104 := ⟨⟨_, Try.underlying104, fun _ h => (by cases h), fun _ _ h => (by cases h)⟩, by kernel_rfl, rfl, fun _ => ⟨rfl, rfl⟩, fun h => (by cases h)⟩
def ti105 : TI := ⟨1, [.nilFunc], .other, false⟩
theorem tiok105 : TIok Try.prog 105 ti105 := ⟨⟨_, Try.underlying105, fun _ h => (by cases h), fun _ _ h => (by cases h)⟩, by kernel_rfl, rfl, fun _ => ⟨rfl, rfl⟩, fun h => (by cases h)⟩
def ti106 : TI := ⟨1, [.nilFunc], .other, false⟩
theorem tiok106 : TIok Try.prog 106 ti106 := ⟨⟨_, Try.underlying106, fun _ h => (by cases h), fun _ _ h => (by cases h)⟩, by kernel_rfl, rfl, fun _ => ⟨rfl, rfl⟩, fun h => (by cases h)⟩
def ti107 : TI := ⟨1, [.nilFunc], .other, false⟩
theorem tiok107 : TIok Try.prog 107 ti107 := ⟨⟨_, Try.underlying107, fun _ h => (by cases h), fun _ _ h => (by cases h)⟩, by kernel_rfl, rfl, fun _ => ⟨rfl, rfl⟩, fun h => (by cases h)⟩
def ti108 : TI := ⟨1, [.nilFunc], .other, false⟩
theorem tiok108 : TIok Try.prog 108 ti108 := ⟨⟨_, Try.underlying108, fun _ h => (by cases h), fun _ _ h => (by cases h)⟩, by kernel_rfl, rfl, fun _ => ⟨rfl, rfl⟩, fun h => (by cases h)⟩
def ti112 : TI := ⟨1, [.nilFunc], .other, false⟩
theorem tiok112 : TIok Try.prog 112 ti112 := ⟨⟨_, Try.underlying112, fun _ h => (by cases h), fun _ _ h => (by cases h)⟩, by kernel_rfl, rfl, fun _ => ⟨rfl, rfl⟩, fun h => (by cases h)⟩
def ti113 : TI := ⟨1, [.pointer none], .other, false⟩
theorem tiok113 : TIok Try.prog 113 ti113 := ⟨⟨_, Try.underlying113, fun _ h => (by cases h), fun _ _ h => (by cases h)⟩, by kernel_rfl, rfl, fun _ => ⟨rfl, rfl⟩, fun h => (by cases h)⟩
def ti114 : TI := ⟨1, [.nilFunc], .other, false⟩
theorem tiok114 : TIok Try.prog 114 ti114 := ⟨⟨_, Try.underlying114, fun _ h => (by cases h), fun _ _ h => (by cases h)⟩, by kernel_rfl, rfl, fun _ => ⟨rfl, rfl⟩, fun h => (by cases h)⟩
def ti115 : TI := ⟨1, [.nilFunc], .other, false⟩
theorem tiok115 : TIok Try.prog 115 ti115 := ⟨⟨_, Try.underlying115, fun _ h => (by cases h), fun _ _ h => (by cases h)⟩, by kernel_rfl, rfl, fun _ => ⟨rfl, rfl⟩, fun h => (by cases h)⟩
def ti116 : TI := ⟨1, [.nilFunc], .other, false⟩
theorem tiok116 : TIok Try.prog 116 ti116 := ⟨⟨_, Try.underlying116, fun _ h => (by cases h), fun _ _ h => (by cases h)⟩, by kernel_rfl, rfl, fun _ => ⟨rfl, rfl⟩, fun h => (by cases h)⟩
def ti117 : TI := ⟨1, [.nilFunc], .other, false⟩
theorem tiok117 : TIok Try.prog 117 ti117 := ⟨⟨_, Try.underlying117, fun _ h => (by cases h), fun _ _ h => (by cases h)⟩, by kernel_rfl, rfl, fun _ => ⟨rfl, rfl⟩, fun h => (by cases h)⟩
def ti118 : TI := ⟨1, [.nilFunc], .other, false⟩
theorem tiok118 : TIok Try.prog 118 ti118 := ⟨⟨_, Try.underlying118, fun _ h => (by cases h), fun _ _ h => (by cases h)⟩, by kernel_rfl, rfl, fun _ => ⟨rfl, rfl⟩, fun h => (by cases h)⟩
def ti119 : TI := ⟨1, [.nilFunc], .other, false⟩
theorem tiok119 : TIok Try.prog 119 ti119 := ⟨⟨_, Try.underlying119, fun _ h => (by cases h), fun _ _ h => (by cases h)⟩, by kernel_rfl, rfl, fun _ => ⟨rfl, rfl⟩, fun h => (by cases h)⟩
def ti120 : TI := ⟨1, [.pointer none], .other, false⟩
theorem tiok120 : TIok Try.prog 120 ti120 := ⟨⟨_, Try.underlying120, fun _ h => (by cases h), fun _ _ h => (by cases h)⟩, by kernel_rfl, rfl, fun _ => ⟨rfl, rfl⟩, fun h => (by cases h)⟩
def ti121 : TI := ⟨1, [.nilFunc], .other, false⟩
theorem tiok121 : TIok Try.prog 121 ti121 := ⟨⟨_, Try.underlying121, fun _ h => (by cases h), fun _ _ h => (by cases h)⟩, by kernel_rfl, rfl, fun _ => ⟨rfl, rfl⟩, fun h => (by cases h)⟩
def ti122 : TI := ⟨1, [.nilFunc], .other, false⟩
theorem tiok122 : TIok Try.prog 122 ti122 := ⟨⟨_, Try.underlying122, fun _ h => (by cases h), fun _ _ h => (by cases h)⟩, by kernel_rfl, rfl, fun _ => ⟨rfl, rfl⟩, fun h => (by cases h)⟩
def ti123 : TI := ⟨1, [.nilFunc], .other, false⟩
theorem tiok123 : TIok Try.prog 123 ti123 := ⟨⟨_, Try.underlying123, fun _ h => (by cases h), fun _ _ h => (by cases h)⟩, by kernel_rfl, rfl, fun _ => ⟨rfl, rfl⟩, fun h => (by cases h)⟩
def ti124 : TI := ⟨1, [.nilFunc], .other, false⟩
theorem tiok124 : TIok Try.prog 124 ti124 := ⟨⟨_, Try.underlying124, fun _ h => (by cases h), fun _ _ h => (by cases h)⟩, by kernel_rfl, rfl, fun _ => ⟨rfl, rfl⟩, fun h => (by cases h)⟩
def ti125 : TI := ⟨1, [.int .u64 0], .int .u64, false⟩
theorem tiok125 : TIok Try.prog 125 ti125 := ⟨⟨_, Try.underlying125, rfl⟩, by kernel_rfl, rfl, fun _ => ⟨rfl, rfl⟩, fun h => (by cases h)⟩
def ti126 : TI := ⟨1, [.nilFunc], .other, false⟩
theorem tiok126 : TIok Try.prog 126 ti126 := ⟨⟨_, Try.underlying126, fun _ h => (by cases h), fun _ _ h => (by cases h)⟩, by kernel_rfl, rfl, fun _ => ⟨rfl, rfl⟩, fun h => (by cases h)⟩
def ti127 : TI := ⟨1, [.int .u32 0], .int .u32, false⟩
theorem tiok127 : TIok Try.prog 127 ti127 := ⟨⟨_, Try.underlying127, rfl⟩, by kernel_rfl, rfl, fun _ => ⟨rfl, rfl⟩, fun h => (by cases h)⟩
def ti129 : TI := ⟨1, [.nilFunc], .other, false⟩
theorem tiok129 : TIok Try.prog 129 ti129 := ⟨⟨_, Try.underlying129, fun _ h => (by cases h), fun _ _ h => (by cases h)⟩, by kernel_rfl, rfl, fun _ => ⟨rfl, rfl⟩, fun h => (by cases h)⟩
def ti137 : TI := ⟨1, [.nilFunc], .other, false⟩
theorem tiok137 : TIok Try.prog 137 ti137 := ⟨⟨_, Try.underlying137, fun _ h => (by cases h), fun _ _ h => (by cases h)⟩, by kernel_rfl, rfl, fun _ => ⟨rfl, rfl⟩, fun h => (by cases h)⟩
def ti138 : TI := ⟨1, [.int .i32 0], .int .i32, false⟩
theorem tiok138 : TIok Try.prog 138 ti138 := ⟨⟨_, Try.underlying138, rfl⟩, by kernel_rfl, rfl, fun _ => ⟨rfl, rfl⟩, fun h => (by cases h)⟩
def ti139 : TI := ⟨1, [.int .i32 0], .int .i32, false⟩
theorem tiok139 : TIok Try.prog 139 ti139 := ⟨⟨_, Try.underlying139, rfl⟩, by kernel_rfl, rfl, fun _ => ⟨rfl, rfl⟩, fun h => (by cases h)⟩
def tt : TT := [(2, ti2), (3, ti3), (4, ti4), (5, ti5), (6, ti6), (9, ti9), (10, ti10), (11, ti11), (31, ti31), (135, ti135), (136, ti136), (7, ti7), (8, ti8), (13, ti13), (14, ti14), (18, ti18), (19, ti19), (22, ti22), (25, ti25), (26, ti26), (28, ti28), (30, ti30), (42, ti42), (43, ti43), (56, ti56), (58, ti58), (63, ti63), (75, ti75), (76, ti76), (79, ti79), (82, ti82), (83, ti83), (85, ti85), (86, ti86), (95, ti95), (96, ti96), (109, ti109), (110, ti110), (130, ti130), (131, ti131), (140, ti140), (141, ti141), (1, ti1), (12, ti12), (15, ti15), (16, ti16), (17, ti17), (20, ti20), (21, ti21), (23, ti23), (24, ti24), (27, ti27), (29, ti29), (33, ti33), (35, ti35), (36, ti36), (37, ti37), (38, ti38), (39, ti39), (40, ti40), (41, ti41), (45, ti45), (47, ti47), (49, ti49), (50, ti50), (51, ti51), (53, ti53), (54, ti54), (55, ti55), (57, ti57), (60, ti60), (61, ti61), (62, ti62), (64, ti64), (65, ti65), (66, ti66), (67, ti67), (68, ti68), (70, ti70), (71, ti71), (72, ti72), (73, ti73), (74, ti74), (78, ti78), (81, ti81), (84, ti84), (87, ti87), (88, ti88), (89, ti89), (90, ti90), (92, ti92), (93, ti93), (94, ti94), (97, ti97), (98, ti98), (100, ti100), (101, ti101), (102, ti102), (104, ti104), (105, ti105), (106, ti106), (107, ti107), (108, ti108), (112, ti112), (113, ti113), (114, ti114), (115, ti115), (116, ti116), (117, ti117), (118, ti118), (119, ti119), (120, ti120), (121, ti121), (122, ti122), (123, ti123), (124, ti124), (125, ti125), (126, ti126), (127, ti127), (129, ti129), (137, ti137), (138, ti138), (139, ti139)]
theorem tt_ok : TOk Try.prog tt := TOk.cons tiok2 (TOk.cons tiok3 (TOk.cons tiok4 (TOk.cons tiok5 (TOk.cons tiok6 (TOk.cons tiok9 (TOk.cons tiok10 (TOk.cons tiok11 (TOk.cons tiok31 (TOk.cons tiok135 (TOk.cons tiok136 (TOk.cons tiok7 (TOk.cons tiok8 (TOk.cons tiok13 (TOk.cons tiok14 (TOk.cons tiok18 (TOk.cons tiok19 (TOk.cons tiok22 (TOk.cons tiok25 (TOk.cons tiok26 (TOk.cons tiok28 (TOk.cons tiok30 (TOk.cons tiok42 (TOk.cons tiok43 (TOk.cons tiok56 (TOk.cons tiok58 (TOk.cons tiok63 (TOk.cons tiok75 (TOk.cons tiok76 (TOk.cons tiok79 (TOk.cons tiok82 (TOk.cons tiok83 (TOk.cons tiok85 (TOk.cons tiok86 (TOk.cons tiok95 (TOk.cons tiok96 (TOk.cons tiok109 (TOk.cons tiok110 (TOk.cons tiok130 (TOk.cons tiok131 (TOk.cons tiok140 (TOk.cons tiok141 (TOk.cons tiok1 (TOk.cons tiok12 (TOk.cons tiok15 (TOk.cons tiok16 (TOk.cons tiok17 (TOk.cons tiok20 (TOk.cons tiok21 (TOk.cons tiok23 (TOk.cons tiok24 (TOk.cons tiok27 (TOk.cons tiok29 (TOk.cons tiok33 (TOk.cons tiok35 (TOk.cons tiok36 (TOk.cons tiok37 (TOk.cons tiok38 (TOk.cons tiok39 (TOk.cons tiok40 (TOk.cons tiok41 (TOk.cons tiok45 (TOk.cons tiok47 (TOk.cons tiok49 (TOk.cons tiok50 (TOk.cons tiok51 (TOk.cons tiok53 (TOk.cons tiok54 (TOk.cons tiok55 (TOk.cons tiok57 (TOk.cons tiok60 (TOk.cons tiok61 (TOk.cons tiok62 (TOk.cons tiok64 (TOk.cons tiok65 (TOk.cons tiok66 (TOk.cons tiok67 (TOk.cons tiok68 (TOk.cons tiok70 (TOk.cons tiok71 (TOk.cons tiok72 (TOk.cons tiok73 (TOk.cons tiok74 (TOk.cons tiok78 (TOk.cons tiok81 (TOk.cons tiok84 (TOk.cons tiok87 (TOk.cons tiok88 (TOk.cons tiok89 (TOk.cons tiok90 (TOk.cons tiok92 (TOk.cons tiok93 (TOk.cons tiok94 (TOk.cons tiok97 (TOk.cons tiok98 (TOk.cons tiok100 (TOk.cons tiok101 (TOk.cons tiok102 (TOk.cons tiok104 (TOk.cons tiok105 (TOk.cons tiok106 (TOk.cons tiok107 (TOk.cons tiok108 (TOk.cons tiok112 (TOk.cons tiok113 (TOk.cons tiok114 (TOk.cons tiok115 (TOk.cons tiok116 (TOk.cons tiok117 (TOk.cons tiok118 (TOk.cons tiok119 (TOk.cons tiok120 (TOk.cons tiok121 (TOk.cons tiok122 (TOk.cons tiok123 (TOk.cons tiok124 (TOk.cons tiok125 (TOk.cons tiok126 (TOk.cons tiok127 (TOk.cons tiok129 (TOk.cons tiok137 (TOk.cons tiok138 (TOk.cons tiok139 (TOk.nil _)))))))))))))))))))))))))))))))))))))))))))))))))))))))))))))))))))))))))))))))))))))))))))))))))))))))))))))))))))))))))))
theorem fn3 : Fn1 Try.prog 3 := ⟨fun a w => run_callFunc Try.func3 rfl (by kernel_rfl) a w⟩
theorem fn4 : Fn1 Try.prog 4 := ⟨fun a w => run_callFunc Try.func4 rfl (by kernel_rfl) a w⟩
theorem fn5 : Fn1 Try.prog 5 := ⟨fun a w => run_callFunc Try.func5 rfl (by kernel_rfl) a w⟩
theorem fn6 : Fn1 Try.prog 6 := ⟨fun a w => run_callFunc Try.func6 rfl (by kernel_rfl) a w⟩
theorem fn7 : Fn1 Try.prog 7 := ⟨fun a w => run_callFunc Try.func7 rfl (by kernel_rfl) a w⟩
theorem fn8 : Fn1 Try.prog 8 := ⟨fun a w => run_callFunc Try.func8 rfl (by kernel_rfl) a w⟩
theorem fn9 : Fn1 Try.prog 9 := ⟨fun a w => run_callFunc Try.func9 rfl (by kernel_rfl) a w⟩
theorem fn10 : Fn1 Try.prog 10 := ⟨fun a w => run_callFunc Try.func10 rfl (by kernel_rfl) a w⟩
theorem fn11 : Fn1 Try.prog 11 := ⟨fun a w => run_callFunc Try.func11 rfl (by kernel_rfl) a w⟩
theorem fn12 : Fn1 Try.prog 12 := ⟨fun a w => run_callFunc Try.func12 rfl (by kernel_rfl) a w⟩
theorem fn13 : Fn1 Try.prog 13 := ⟨fun a w => run_callFunc Try.func13 rfl (by kernel_rfl) a w⟩
theorem fn14 : Fn1 Try.prog 14 := ⟨fun a w => run_callFunc Try.func14 rfl (by kernel_rfl) a w⟩
theorem fn15 : Fn1 Try.prog 15 := ⟨fun a w => run_callFunc Try.func15 rfl (by kernel_rfl) a w⟩
theorem fn16 : Fn1 Try.prog 16 := ⟨fun a w => run_callFunc Try.func16 rfl (by kernel_rfl) a w⟩
theorem fn17 : Fn1 Try.prog 17 := ⟨fun a w => run_callFunc Try.func17 rfl (by kernel_rfl) a w⟩
theorem fn18 : Fn1 Try.prog 18 := ⟨fun a w => run_callFunc Try.func18 rfl (by kernel_rfl) a w⟩
theorem fn19 : Fn1 Try.prog 19 := ⟨fun a w => run_callFunc Try.func19 rfl (by kernel_rfl) a w⟩
theorem fn20 : Fn1 Try.prog 20 := ⟨fun a w => run_callFunc Try.func20 rfl (by kernel_rfl) a w⟩
theorem fn21 : Fn1 Try.prog 21 := ⟨fun a w => run_callFunc Try.func21 rfl (by kernel_rfl) a w⟩
theorem fn22 : Fn1 Try.prog 22 := ⟨fun a w => run_callFunc Try.func22 rfl (by kernel_rfl) a w⟩
theorem fn23 : Fn1 Try.prog 23 := ⟨fun a w => run_callFunc Try.func23 rfl (by kernel_rfl) a w⟩
theorem fn24 : Fn1 Try.prog 24 := ⟨fun a w => run_callFunc Try.func24 rfl (by kernel_rfl) a w⟩
theorem fn25 : Fn1 Try.prog 25 := ⟨fun a w => run_callFunc Try.func25 rfl (by kernel_rfl) a w⟩
theorem fn26 : Fn1 Try.prog 26 := ⟨fun a w => run_callFunc Try.func26 rfl (by kernel_rfl) a w⟩
theorem fn27 : Fn1 Try.prog 27 := ⟨fun a w => run_callFunc Try.func27 rfl (by kernel_rfl) a w⟩
theorem fn28 : Fn1 Try.prog 28 := ⟨fun a w => run_callFunc Try.func28 rfl (by kernel_rfl) a w⟩
theorem fn29 : Fn1 Try.prog 29 := ⟨fun a w => run_callFunc Try.func29 rfl (by kernel_rfl) a w⟩
theorem fn30 : Fn1 Try.prog 30 := ⟨fun a w => run_callFunc Try.func30 rfl (by kernel_rfl) a w⟩
theorem fn31 : Fn1 Try.prog 31 := ⟨fun a w => run_callFunc Try.func31 rfl (by kernel_rfl) a w⟩
theorem fn32 : Fn1 Try.prog 32 := ⟨fun a w => run_callFunc Try.func32 rfl (by kernel_rfl) a w⟩
theorem fn33 : Fn1 Try.prog 33 := ⟨fun a w => run_callFunc Try.func33 rfl (by kernel_rfl) a w⟩
theorem fn34 : Fn1 Try.prog 34 := ⟨fun a w => run_callFunc Try.func34 rfl (by kernel_rfl) a w⟩
theorem fn35 : Fn1 Try.prog 35 := ⟨fun a w => run_callFunc Try.func35 rfl (by kernel_rfl) a w⟩
theorem fn36 : Fn1 Try.prog 36 := ⟨fun a w => run_callFunc Try.func36 rfl (by kernel_rfl) a w⟩
theorem fn37 : Fn1 Try.prog 37 := ⟨fun a w => run_callFunc Try.func37 rfl (by kernel_rfl) a w⟩
theorem fn38 : Fn1 Try.prog 38 := ⟨fun a w => run_callFunc Try.func38 rfl (by kernel_rfl) a w⟩
theorem fn39 : Fn1 Try.prog 39 := ⟨fun a w => run_callFunc Try.func39 rfl (by kernel_rfl) a w⟩
theorem fn40 : Fn1 Try.prog 40 := ⟨fun a w => run_callFunc Try.func40 rfl (by kernel_rfl) a w⟩
theorem fn41 : Fn1 Try.prog 41 := ⟨fun a w => run_callFunc Try.func41 rfl (by kernel_rfl) a w⟩
theorem fn42 : Fn1 Try.prog 42 := ⟨fun a w => run_callFunc Try.func42 rfl (by kernel_rfl) a w⟩
theorem fn43 : Fn1 Try.prog 43 := ⟨fun a w => run_callFunc Try.func43 rfl (by kernel_rfl) a w⟩
theorem fn44 : Fn1 Try.prog 44 := ⟨fun a w => run_callFunc Try.func44 rfl (by kernel_rfl) a w⟩
theorem fn45 : Fn1 Try.prog 45 := ⟨fun a w => run_callFunc Try.func45 rfl (by kernel_rfl) a w⟩
theorem fn46 : Fn1 Try.prog 46 := ⟨fun a w => run_callFunc Try.func46 rfl (by kernel_rfl) a w⟩
theorem fn47 : Fn1 Try.prog 47 := ⟨fun a w => run_callFunc Try.func47 rfl (by kernel_rfl) a w⟩
theorem fn48 : Fn1 Try.prog 48 := ⟨fun a w => run_callFunc Try.func48 rfl (by kernel_rfl) a w⟩
theorem fn49 : Fn1 Try.prog 49 := ⟨fun a w => run_callFunc Try.func49 rfl (by kernel_rfl) a w⟩
theorem fn50 : Fn1 Try.prog 50 := ⟨fun a w => run_callFunc Try.func50 rfl (by kernel_rfl) a w⟩
theorem fn51 : Fn1 Try.prog 51 := ⟨fun a w => run_callFunc Try.func51 rfl (by kernel_rfl) a w⟩
theorem fn52 : Fn1 Try.prog 52 := ⟨fun a w => run_callFunc Try.func52 rfl (by kernel_rfl) a w⟩
theorem fn53 : Fn1 Try.prog 53 := ⟨fun a w => run_callFunc Try.func53 rfl (by kernel_rfl) a w⟩
theorem fn54 : Fn1 Try.prog 54 := ⟨fun a w => run_callFunc Try.func54 rfl (by kernel_rfl) a w⟩
theorem fn55 : Fn1 Try.prog 55 := ⟨fun a w => run_callFunc Try.func55 rfl (by kernel_rfl) a w⟩
theorem fn56 : Fn1 Try.prog 56 := ⟨fun a w => run_callFunc Try.func56 rfl (by kernel_rfl) a w⟩
theorem fn57 : Fn1 Try.prog 57 := ⟨fun a w => run_callFunc Try.func57 rfl (by kernel_rfl) a w⟩
theorem fn58 : Fn1 Try.prog 58 := ⟨fun a w => run_callFunc Try.func58 rfl (by kernel_rfl) a w⟩
theorem fn59 : Fn1 Try.prog 59 := ⟨fun a w => run_callFunc Try.func59 rfl (by kernel_rfl) a w⟩
theorem fn60 : Fn1 Try.prog 60 := ⟨fun a w => run_callFunc Try.func60 rfl (by kernel_rfl) a w⟩
theorem fn61 : Fn1 Try.prog 61 := ⟨fun a w => run_callFunc Try.func61 rfl (by kernel_rfl) a w⟩
theorem fn62 : Fn1 Try.prog 62 := ⟨fun a w => run_callFunc Try.func62 rfl (by kernel_rfl) a w⟩
theorem fn63 : Fn1 Try.prog 63 := ⟨fun a w => run_callFunc Try.func63 rfl (by kernel_rfl) a w⟩
theorem fn64 : Fn1 Try.prog 64 := ⟨fun a w => run_callFunc Try.func64 rfl (by kernel_rfl) a w⟩
theorem fn65 : Fn1 Try.prog 65 := ⟨fun a w => run_callFunc Try.func65 rfl (by kernel_rfl) a w⟩
theorem fn66 : Fn1 Try.prog 66 := ⟨fun a w => run_callFunc Try.func66 rfl (by kernel_rfl) a w⟩
theorem fn67 : Fn1 Try.prog 67 := ⟨fun a w => run_callFunc Try.func67 rfl (by kernel_rfl) a w⟩
theorem fn68 : Fn1 Try.prog 68 := ⟨fun a w => run_callFunc Try.func68 rfl (by kernel_rfl) a w⟩
theorem fn69 : Fn1 Try.prog 69 := ⟨fun a w => run_callFunc Try.func69 rfl (by kernel_rfl) a w⟩
theorem fn70 : Fn1 Try.prog 70 := ⟨fun a w => run_callFunc Try.func70 rfl (by kernel_rfl) a w⟩
theorem fn71 : Fn1 Try.prog 71 := ⟨fun a w => run_callFunc Try.func71 rfl (by kernel_rfl) a w⟩
theorem fn72 : Fn1 Try.prog 72 := ⟨fun a w => run_callFunc Try.func72 rfl (by kernel_rfl) a w⟩
theorem fn73 : Fn1 Try.prog 73 := ⟨fun a w => run_callFunc Try.func73 rfl (by kernel_rfl) a w⟩
theorem fn74 : Fn1 Try.prog 74 := ⟨fun a w => run_callFunc Try.func74 rfl (by kernel_rfl) a w⟩
theorem fn75 : Fn1 Try.prog 75 := ⟨fun a w => run_callFunc Try.func75 rfl (by kernel_rfl) a w⟩
theorem fn76 : Fn1 Try.prog 76 := ⟨fun a w => run_callFunc Try.func76 rfl (by kernel_rfl) a w⟩
theorem fn77 : Fn1 Try.prog 77 := ⟨fun a w => run_callFunc Try.func77 rfl (by kernel_rfl) a w⟩
theorem fn78 : Fn1 Try.prog 78 := ⟨fun a w => run_callFunc Try.func78 rfl (by kernel_rfl) a w⟩
theorem fn79 : Fn1 Try.prog 79 := ⟨fun a w => run_callFunc Try.func79 rfl (by kernel_rfl) a w⟩
theorem fn80 : Fn1 Try.prog 80 := ⟨fun a w => run_callFunc Try.func80 rfl (by kernel_rfl) a w⟩
theorem fn82 : Fn1 Try.prog 82 := ⟨fun a w => run_callFunc Try.func82 rfl (by kernel_rfl) a w⟩
theorem fn83 : Fn1 Try.prog 83 := ⟨fun a w => run_callFunc Try.func83 rfl (by kernel_rfl) a w⟩
theorem fn84 : Fn1 Try.prog 84 := ⟨fun a w => run_callFunc Try.func84 rfl (by kernel_rfl) a w⟩
theorem fn85 : Fn1 Try.prog 85 := ⟨fun a w => run_callFunc Try.func85 rfl (by kernel_rfl) a w⟩
theorem fn86 : Fn1 Try.prog 86 := ⟨fun a w => run_callFunc Try.func86 rfl (by kernel_rfl) a w⟩
theorem fn87 : Fn1 Try.prog 87 := ⟨fun a w => run_callFunc Try.func87 rfl (by kernel_rfl) a w⟩
theorem fn88 : Fn1 Try.prog 88 := ⟨fun a w => run_callFunc Try.func88 rfl (by kernel_rfl) a w⟩
theorem fn89 : Fn1 Try.prog 89 := ⟨fun a w => run_callFunc Try.func89 rfl (by kernel_rfl) a w⟩
theorem fn90 : Fn1 Try.prog 90 := ⟨fun a w => run_callFunc Try.func90 rfl (by kernel_rfl) a w⟩
theorem fn91 : Fn1 Try.prog 91 := ⟨fun a w => run_callFunc Try.func91 rfl (by kernel_rfl) a w⟩
theorem fn92 : Fn1 Try.prog 92 := ⟨fun a w => run_callFunc Try.func92 rfl (by kernel_rfl) a w⟩
theorem fn94 : Fn1 Try.prog 94 := ⟨fun a w => run_callFunc Try.func94 rfl (by kernel_rfl) a w⟩
theorem fn95 : Fn1 Try.prog 95 := ⟨fun a w => run_callFunc Try.func95 rfl (by kernel_rfl) a w⟩
theorem fn97 : Fn1 Try.prog 97 := ⟨fun a w => run_callFunc Try.func97 rfl (by kernel_rfl) a w⟩
theorem fn98 : Fn1 Try.prog 98 := ⟨fun a w => run_callFunc Try.func98 rfl (by kernel_rfl) a w⟩
theorem fn99 : Fn1 Try.prog 99 := ⟨fun a w => run_callFunc Try.func99 rfl (by kernel_rfl) a w⟩
theorem fn100 : Fn1 Try.prog 100 := ⟨fun a w => run_callFunc Try.func100 rfl (by kernel_rfl) a w⟩
theorem fn101 : Fn1 Try.prog 101 := ⟨fun a w => run_callFunc Try.func101 rfl (by kernel_rfl) a w⟩
theorem fn102 : Fn1 Try.prog 102 := ⟨fun a w => run_callFunc Try.func102 rfl (by kernel_rfl) a w⟩
theorem fn103 : Fn1 Try.prog 103 := ⟨fun a w => run_callFunc Try.func103 rfl (by kernel_rfl) a w⟩
theorem fn104 : Fn1 Try.prog 104 := ⟨fun a w => run_callFunc Try.func104 rfl (by kernel_rfl) a w⟩
theorem fn105 : Fn1 Try.prog 105 := ⟨fun a w => run_callFunc Try.func105 rfl (by kernel_rfl) a w⟩
end Go.Proofs.Ytebnccdegjdfiaa
