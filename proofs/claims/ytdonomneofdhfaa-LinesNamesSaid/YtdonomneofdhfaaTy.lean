/- The types of this translation, as my own table; printed by gen_types.py. -/
import Derived.Test.YtdonomneofdhfaaGX
import Derived.Test.YtdonomneofdhfaaProg
import Derived.KernelRfl
namespace Go.Proofs.Ytdonomneofdhfaa
open Go.GV
def ti2 : TI := ⟨1, [.int .i64 0], .int .i64, false⟩
theorem tiok2 : TIok Try.prog 2 ti2 := ⟨⟨_, Try.underlying2, rfl⟩, by kernel_rfl, rfl, fun _ => ⟨rfl, rfl⟩, fun h => (by cases h)⟩
def ti3 : TI := ⟨1, [.int .i64 0], .int .i64, false⟩
theorem tiok3 : TIok Try.prog 3 ti3 := ⟨⟨_, Try.underlying3, rfl⟩, by kernel_rfl, rfl, fun _ => ⟨rfl, rfl⟩, fun h => (by cases h)⟩
def ti4 : TI := ⟨1, [.bool false], .bool, false⟩
theorem tiok4 : TIok Try.prog 4 ti4 := ⟨⟨_, Try.underlying4, rfl⟩, by kernel_rfl, rfl, fun _ => ⟨rfl, rfl⟩, fun h => (by cases h)⟩
def ti5 : TI := ⟨1, [.int .u8 0], .int .u8, false⟩
theorem tiok5 : TIok Try.prog 5 ti5 := ⟨⟨_, Try.underlying5, rfl⟩, by kernel_rfl, rfl, fun _ => ⟨rfl, rfl⟩, fun h => (by cases h)⟩
def ti6 : TI := ⟨1, [.int .u8 0], .int .u8, false⟩
theorem tiok6 : TIok Try.prog 6 ti6 := ⟨⟨_, Try.underlying6, rfl⟩, by kernel_rfl, rfl, fun _ => ⟨rfl, rfl⟩, fun h => (by cases h)⟩
def ti9 : TI := ⟨1, [.string ⟨#[]⟩], .str, false⟩
theorem tiok9 : TIok Try.prog 9 ti9 := ⟨⟨_, Try.underlying9, rfl⟩, by kernel_rfl, rfl, fun _ => ⟨rfl, rfl⟩, fun h => (by cases h)⟩
def ti10 : TI := ⟨1, [.string ⟨#[]⟩], .str, false⟩
theorem tiok10 : TIok Try.prog 10 ti10 := ⟨⟨_, Try.underlying10, rfl⟩, by kernel_rfl, rfl, fun _ => ⟨rfl, rfl⟩, fun h => (by cases h)⟩
def ti11 : TI := ⟨1, [.string ⟨#[]⟩], .str, false⟩
theorem tiok11 : TIok Try.prog 11 ti11 := ⟨⟨_, Try.underlying11, rfl⟩, by kernel_rfl, rfl, fun _ => ⟨rfl, rfl⟩, fun h => (by cases h)⟩
def ti37 : TI := ⟨1, [.int .i64 0], .int .i64, false⟩
theorem tiok37 : TIok Try.prog 37 ti37 := ⟨⟨_, Try.underlying37, rfl⟩, by kernel_rfl, rfl, fun _ => ⟨rfl, rfl⟩, fun h => (by cases h)⟩
def ti221 : TI := ⟨1, [.int .u8 0], .int .u8, false⟩
theorem tiok221 : TIok Try.prog 221 ti221 := ⟨⟨_, Try.underlying221, rfl⟩, by kernel_rfl, rfl, fun _ => ⟨rfl, rfl⟩, fun h => (by cases h)⟩
def ti222 : TI := ⟨1, [.int .u8 0], .int .u8, false⟩
theorem tiok222 : TIok Try.prog 222 ti222 := ⟨⟨_, Try.underlying222, rfl⟩, by kernel_rfl, rfl, fun _ => ⟨rfl, rfl⟩, fun h => (by cases h)⟩
def ti7 : TI := ⟨4, [.int .i64 0, .int .i64 0, .bool false, .int .u8 0], .strct [(0, 2), (1, 3), (2, 4), (3, 6)], false⟩
theorem tiok7 : TIok Try.prog 7 ti7 := ⟨⟨_, Try.underlying7, _, rfl, rfl⟩, by kernel_rfl, rfl, fun h => (by cases h), fun h => (by cases h)⟩
def ti8 : TI := ⟨4, [.int .i64 0, .int .i64 0, .bool false, .int .u8 0], .strct [(0, 2), (1, 3), (2, 4), (3, 6)], false⟩
theorem tiok8 : TIok Try.prog 8 ti8 := ⟨⟨_, Try.underlying8, _, rfl, rfl⟩, by kernel_rfl, rfl, fun h => (by cases h), fun h => (by cases h)⟩
def ti13 : TI := ⟨2, [.string ⟨#[]⟩, .int .u64 0], .strct [(0, 9), (1, 12)], false⟩
theorem tiok13 : TIok Try.prog 13 ti13 := ⟨⟨_, Try.underlying13, _, rfl, rfl⟩, by kernel_rfl, rfl, fun h => (by cases h), fun h => (by cases h)⟩
def ti14 : TI := ⟨2, [.string ⟨#[]⟩, .int .u64 0], .strct [(0, 9), (1, 12)], false⟩
theorem tiok14 : TIok Try.prog 14 ti14 := ⟨⟨_, Try.underlying14, _, rfl, rfl⟩, by kernel_rfl, rfl, fun h => (by cases h), fun h => (by cases h)⟩
def ti18 : TI := ⟨1, [.pointer none], .strct [(0, 17)], false⟩
theorem tiok18 : TIok Try.prog 18 ti18 := ⟨⟨_, Try.underlying18, _, rfl, rfl⟩, by kernel_rfl, rfl, fun h => (by cases h), fun h => (by cases h)⟩
def ti19 : TI := ⟨1, [.pointer none], .strct [(0, 17)], false⟩
theorem tiok19 : TIok Try.prog 19 ti19 := ⟨⟨_, Try.underlying19, _, rfl, rfl⟩, by kernel_rfl, rfl, fun h => (by cases h), fun h => (by cases h)⟩
def ti22 : TI := ⟨1, [.slice none 0 0], .slice 31, false⟩
theorem tiok22 : TIok Try.prog 22 ti22 := ⟨⟨_, Try.underlying22, rfl⟩, by kernel_rfl, rfl, fun _ => ⟨rfl, rfl⟩, fun h => (by cases h)⟩
def ti23 : TI := ⟨1, [.slice none 0 0], .slice 28, false⟩
theorem tiok23 : TIok Try.prog 23 ti23 := ⟨⟨_, Try.underlying23, rfl⟩, by kernel_rfl, rfl, fun _ => ⟨rfl, rfl⟩, fun h => (by cases h)⟩
def ti27 : TI := ⟨3, [.bool false, .string ⟨#[]⟩, .slice none 0 0], .strct [(0, 4), (1, 9), (2, 22)], false⟩
theorem tiok27 : TIok Try.prog 27 ti27 := ⟨⟨_, Try.underlying27, _, rfl, rfl⟩, by kernel_rfl, rfl, fun h => (by cases h), fun h => (by cases h)⟩
def ti28 : TI := ⟨3, [.bool false, .string ⟨#[]⟩, .slice none 0 0], .strct [(0, 4), (1, 9), (2, 22)], false⟩
theorem tiok28 : TIok Try.prog 28 ti28 := ⟨⟨_, Try.underlying28, _, rfl, rfl⟩, by kernel_rfl, rfl, fun h => (by cases h), fun h => (by cases h)⟩
def ti30 : TI := ⟨5, [.int .i64 0, .string ⟨#[]⟩, .int .i64 0, .int .i64 0, .bool false], .strct [(0, 3), (1, 9), (2, 3), (3, 3), (4, 4)], true⟩
theorem tiok30 : TIok Try.prog 30 ti30 := ⟨⟨_, Try.underlying30, _, rfl, rfl⟩, by kernel_rfl, rfl, fun h => (by cases h), fun _ => ⟨by kernel_rfl, by kernel_rfl, by kernel_rfl⟩⟩
def ti31 : TI := ⟨5, [.int .i64 0, .string ⟨#[]⟩, .int .i64 0, .int .i64 0, .bool false], .strct [(0, 3), (1, 9), (2, 3), (3, 3), (4, 4)], true⟩
theorem tiok31 : TIok Try.prog 31 ti31 := ⟨⟨_, Try.underlying31, _, rfl, rfl⟩, by kernel_rfl, rfl, fun h => (by cases h), fun _ => ⟨by kernel_rfl, by kernel_rfl, by kernel_rfl⟩⟩
def ti33 : TI := ⟨1, [.slice none 0 0], .slice 9, false⟩
theorem tiok33 : TIok Try.prog 33 ti33 := ⟨⟨_, Try.underlying33, rfl⟩, by kernel_rfl, rfl, fun _ => ⟨rfl, rfl⟩, fun h => (by cases h)⟩
def ti34 : TI := ⟨1, [.slice none 0 0], .slice 46, false⟩
theorem tiok34 : TIok Try.prog 34 ti34 := ⟨⟨_, Try.underlying34, rfl⟩, by kernel_rfl, rfl, fun _ => ⟨rfl, rfl⟩, fun h => (by cases h)⟩
def ti35 : TI := ⟨5, [.string ⟨#[]⟩, .bool false, .slice none 0 0, .bool false, .slice none 0 0], .strct [(0, 9), (1, 4), (2, 33), (3, 4), (4, 34)], false⟩
theorem tiok35 : TIok Try.prog 35 ti35 := ⟨⟨_, Try.underlying35, _, rfl, rfl⟩, by kernel_rfl, rfl, fun h => (by cases h), fun h => (by cases h)⟩
def ti36 : TI := ⟨5, [.string ⟨#[]⟩, .bool false, .slice none 0 0, .bool false, .slice none 0 0], .strct [(0, 9), (1, 4), (2, 33), (3, 4), (4, 34)], false⟩
theorem tiok36 : TIok Try.prog 36 ti36 := ⟨⟨_, Try.underlying36, _, rfl, rfl⟩, by kernel_rfl, rfl, fun h => (by cases h), fun h => (by cases h)⟩
def ti45 : TI := ⟨4, [.int .i64 0, .string ⟨#[]⟩, .bool false, .slice none 0 0], .strct [(0, 3), (1, 9), (2, 4), (3, 33)], false⟩
theorem tiok45 : TIok Try.prog 45 ti45 := ⟨⟨_, Try.underlying45, _, rfl, rfl⟩, by kernel_rfl, rfl, fun h => (by cases h), fun h => (by cases h)⟩
def ti46 : TI := ⟨4, [.int .i64 0, .string ⟨#[]⟩, .bool false, .slice none 0 0], .strct [(0, 3), (1, 9), (2, 4), (3, 33)], false⟩
theorem tiok46 : TIok Try.prog 46 ti46 := ⟨⟨_, Try.underlying46, _, rfl, rfl⟩, by kernel_rfl, rfl, fun h => (by cases h), fun h => (by cases h)⟩
def ti61 : TI := ⟨1, [.slice none 0 0], .slice 5, false⟩
theorem tiok61 : TIok Try.prog 61 ti61 := ⟨⟨_, Try.underlying61, rfl⟩, by kernel_rfl, rfl, fun _ => ⟨rfl, rfl⟩, fun h => (by cases h)⟩
def ti64 : TI := ⟨1, [.slice none 0 0], .slice 3, false⟩
theorem tiok64 : TIok Try.prog 64 ti64 := ⟨⟨_, Try.underlying64, rfl⟩, by kernel_rfl, rfl, fun _ => ⟨rfl, rfl⟩, fun h => (by cases h)⟩
def ti77 : TI := ⟨1, [.slice none 0 0], .slice 2, false⟩
theorem tiok77 : TIok Try.prog 77 ti77 := ⟨⟨_, Try.underlying77, rfl⟩, by kernel_rfl, rfl, fun _ => ⟨rfl, rfl⟩, fun h => (by cases h)⟩
def ti85 : TI := ⟨2, [.int .i64 0, .string ⟨#[]⟩], .strct [(0, 3), (1, 9)], true⟩
theorem tiok85 : TIok Try.prog 85 ti85 := ⟨⟨_, Try.underlying85, _, rfl, rfl⟩, by kernel_rfl, rfl, fun h => (by cases h), fun _ => ⟨by kernel_rfl, by kernel_rfl, by kernel_rfl⟩⟩
def ti86 : TI := ⟨2, [.int .i64 0, .string ⟨#[]⟩], .strct [(0, 3), (1, 9)], true⟩
theorem tiok86 : TIok Try.prog 86 ti86 := ⟨⟨_, Try.underlying86, _, rfl, rfl⟩, by kernel_rfl, rfl, fun h => (by cases h), fun _ => ⟨by kernel_rfl, by kernel_rfl, by kernel_rfl⟩⟩
def ti97 : TI := ⟨1, [.slice none 0 0], .slice 86, false⟩
theorem tiok97 : TIok Try.prog 97 ti97 := ⟨⟨_, Try.underlying97, rfl⟩, by kernel_rfl, rfl, fun _ => ⟨rfl, rfl⟩, fun h => (by cases h)⟩
def ti128 : TI := ⟨3, [.int .i64 0, .int .i64 0, .int .i64 0], .strct [(0, 3), (1, 3), (2, 3)], true⟩
theorem tiok128 : TIok Try.prog 128 ti128 := ⟨⟨_, Try.underlying128, _, rfl, rfl⟩, by kernel_rfl, rfl, fun h => (by cases h), fun _ => ⟨by kernel_rfl, by kernel_rfl, by kernel_rfl⟩⟩
def ti129 : TI := ⟨3, [.int .i64 0, .int .i64 0, .int .i64 0], .strct [(0, 3), (1, 3), (2, 3)], true⟩
theorem tiok129 : TIok Try.prog 129 ti129 := ⟨⟨_, Try.underlying129, _, rfl, rfl⟩, by kernel_rfl, rfl, fun h => (by cases h), fun _ => ⟨by kernel_rfl, by kernel_rfl, by kernel_rfl⟩⟩
def ti132 : TI := ⟨1, [.slice none 0 0], .slice 136, false⟩
theorem tiok132 : TIok Try.prog 132 ti132 := ⟨⟨_, Try.underlying132, rfl⟩, by kernel_rfl, rfl, fun _ => ⟨rfl, rfl⟩, fun h => (by cases h)⟩
def ti135 : TI := ⟨3, [.int .u8 0, .int .i64 0, .int .i64 0], .strct [(0, 5), (1, 3), (2, 3)], true⟩
theorem tiok135 : TIok Try.prog 135 ti135 := ⟨⟨_, Try.underlying135, _, rfl, rfl⟩, by kernel_rfl, rfl, fun h => (by cases h), fun _ => ⟨by kernel_rfl, by kernel_rfl, by kernel_rfl⟩⟩
def ti136 : TI := ⟨3, [.int .u8 0, .int .i64 0, .int .i64 0], .strct [(0, 5), (1, 3), (2, 3)], true⟩
theorem tiok136 : TIok Try.prog 136 ti136 := ⟨⟨_, Try.underlying136, _, rfl, rfl⟩, by kernel_rfl, rfl, fun h => (by cases h), fun _ => ⟨by kernel_rfl, by kernel_rfl, by kernel_rfl⟩⟩
def ti138 : TI := ⟨2, [.pointer none, .slice none 0 0], .strct [(0, 137), (1, 61)], false⟩
theorem tiok138 : TIok Try.prog 138 ti138 := ⟨⟨_, Try.underlying138, _, rfl, rfl⟩, by kernel_rfl, rfl, fun h => (by cases h), fun h => (by cases h)⟩
def ti139 : TI := ⟨2, [.pointer none, .slice none 0 0], .strct [(0, 137), (1, 61)], false⟩
theorem tiok139 : TIok Try.prog 139 ti139 := ⟨⟨_, Try.underlying139, _, rfl, rfl⟩, by kernel_rfl, rfl, fun h => (by cases h), fun h => (by cases h)⟩
def ti148 : TI := ⟨1, [.slice none 0 0], .slice 4, false⟩
theorem tiok148 : TIok Try.prog 148 ti148 := ⟨⟨_, Try.underlying148, rfl⟩, by kernel_rfl, rfl, fun _ => ⟨rfl, rfl⟩, fun h => (by cases h)⟩
def ti186 : TI := ⟨4, [.int .u8 0, .int .i64 0, .int .i64 0, .bool false], .strct [(0, 136), (3, 4)], true⟩
theorem tiok186 : TIok Try.prog 186 ti186 := ⟨⟨_, Try.underlying186, _, rfl, rfl⟩, by kernel_rfl, rfl, fun h => (by cases h), fun _ => ⟨by kernel_rfl, by kernel_rfl, by kernel_rfl⟩⟩
def ti187 : TI := ⟨4, [.int .u8 0, .int .i64 0, .int .i64 0, .bool false], .strct [(0, 136), (3, 4)], true⟩
theorem tiok187 : TIok Try.prog 187 ti187 := ⟨⟨_, Try.underlying187, _, rfl, rfl⟩, by kernel_rfl, rfl, fun h => (by cases h), fun _ => ⟨by kernel_rfl, by kernel_rfl, by kernel_rfl⟩⟩
def ti195 : TI := ⟨3, [.int .i64 0, .string ⟨#[]⟩, .bool false], .strct [(0, 3), (1, 9), (2, 4)], true⟩
theorem tiok195 : TIok Try.prog 195 ti195 := ⟨⟨_, Try.underlying195, _, rfl, rfl⟩, by kernel_rfl, rfl, fun h => (by cases h), fun _ => ⟨by kernel_rfl, by kernel_rfl, by kernel_rfl⟩⟩
def ti196 : TI := ⟨3, [.int .i64 0, .string ⟨#[]⟩, .bool false], .strct [(0, 3), (1, 9), (2, 4)], true⟩
theorem tiok196 : TIok Try.prog 196 ti196 := ⟨⟨_, Try.underlying196, _, rfl, rfl⟩, by kernel_rfl, rfl, fun h => (by cases h), fun _ => ⟨by kernel_rfl, by kernel_rfl, by kernel_rfl⟩⟩
def ti216 : TI := ⟨4, [.pointer none, .pointer none, .pointer none, .string ⟨#[]⟩], .strct [(0, 17), (1, 17), (2, 17), (3, 9)], false⟩
theorem tiok216 : TIok Try.prog 216 ti216 := ⟨⟨_, Try.underlying216, _, rfl, rfl⟩, by kernel_rfl, rfl, fun h => (by cases h), fun h => (by cases h)⟩
def ti217 : TI := ⟨4, [.pointer none, .pointer none, .pointer none, .string ⟨#[]⟩], .strct [(0, 17), (1, 17), (2, 17), (3, 9)], false⟩
theorem tiok217 : TIok Try.prog 217 ti217 := ⟨⟨_, Try.underlying217, _, rfl, rfl⟩, by kernel_rfl, rfl, fun h => (by cases h), fun h => (by cases h)⟩
def ti226 : TI := ⟨11, [.int .u64 0, .int .u64 0, .int .u32 0, .int .u8 0, .int .u8 0, .int .u8 0, .int .u8 0, .nilFunc, .pointer none, .int .i32 0, .int .i32 0], .strct [(0, 12), (1, 12), (2, 213), (3, 221), (4, 5), (5, 5), (6, 222), (7, 223), (8, 190), (9, 224), (10, 225)], false⟩
theorem tiok226 : TIok Try.prog 226 ti226 := ⟨⟨_, Try.underlying226, _, rfl, rfl⟩, by kernel_rfl, rfl, fun h => (by cases h), fun h => (by cases h)⟩
def ti227 : TI := ⟨11, [.int .u64 0, .int .u64 0, .int .u32 0, .int .u8 0, .int .u8 0, .int .u8 0, .int .u8 0, .nilFunc, .pointer none, .int .i32 0, .int .i32 0], .strct [(0, 12), (1, 12), (2, 213), (3, 221), (4, 5), (5, 5), (6, 222), (7, 223), (8, 190), (9, 224), (10, 225)], false⟩
theorem tiok227 : TIok Try.prog 227 ti227 := ⟨⟨_, Try.underlying227, _, rfl, rfl⟩, by kernel_rfl, rfl, fun h => (by cases h), fun h => (by cases h)⟩
def ti1 : TI := ⟨1, [.nilFunc], .other, false⟩
theorem tiok1 : TIok Try.prog 1 ti1 := ⟨⟨_, Try.underlying1, fun _ h => (by cases h), fun _ _ h => (by cases h)⟩, by kernel_rfl, rfl, fun _ => ⟨rfl, rfl⟩, fun h => (by cases h)⟩
def ti12 : TI := ⟨1, [.int .u64 0], .int .u64, false⟩
theorem tiok12 : TIok Try.prog 12 ti12 := ⟨⟨_, Try.underlying12, rfl⟩, by kernel_rfl, rfl, fun _ => ⟨rfl, rfl⟩, fun h => (by cases h)⟩
def ti15 : TI := ⟨1, [.pointer none], .other, false⟩
theorem tiok15 : TIok Try.prog 15 ti15 := ⟨⟨_, Try.underlying15, fun _ h => (by cases h), fun _ _ h => (by cases h)⟩, by kernel_rfl, rfl, fun _ => ⟨rfl, rfl⟩, fun h => (by cases h)⟩
def ti16 : TI := ⟨1, [.pointer none], .other, false⟩
theorem tiok16 : TIok Try.prog 16 ti16 := ⟨⟨_, Try.underlying16, fun _ h => (by cases h), fun _ _ h => (by cases h)⟩, by kernel_rfl, rfl, fun _ => ⟨rfl, rfl⟩, fun h => (by cases h)⟩
def ti17 : TI := ⟨1, [.pointer none], .other, false⟩
theorem tiok17 : TIok Try.prog 17 ti17 := ⟨⟨_, Try.underlying17, fun _ h => (by cases h), fun _ _ h => (by cases h)⟩, by kernel_rfl, rfl, fun _ => ⟨rfl, rfl⟩, fun h => (by cases h)⟩
def ti20 : TI := ⟨1, [.nilIface], .other, false⟩
theorem tiok20 : TIok Try.prog 20 ti20 := ⟨⟨_, Try.underlying20, fun _ h => (by cases h), fun _ _ h => (by cases h)⟩, by kernel_rfl, rfl, fun _ => ⟨rfl, rfl⟩, fun h => (by cases h)⟩
def ti21 : TI := ⟨1, [.int .i32 0], .int .i32, false⟩
theorem tiok21 : TIok Try.prog 21 ti21 := ⟨⟨_, Try.underlying21, rfl⟩, by kernel_rfl, rfl, fun _ => ⟨rfl, rfl⟩, fun h => (by cases h)⟩
def ti24 : TI := ⟨1, [.nilFunc], .other, false⟩
theorem tiok24 : TIok Try.prog 24 ti24 := ⟨⟨_, Try.underlying24, fun _ h => (by cases h), fun _ _ h => (by cases h)⟩, by kernel_rfl, rfl, fun _ => ⟨rfl, rfl⟩, fun h => (by cases h)⟩
def ti25 : TI := ⟨1, [.nilFunc], .other, false⟩
theorem tiok25 : TIok Try.prog 25 ti25 := ⟨⟨_, Try.underlying25, fun _ h => (by cases h), fun _ _ h => (by cases h)⟩, by kernel_rfl, rfl, fun _ => ⟨rfl, rfl⟩, fun h => (by cases h)⟩
def ti26 : TI := ⟨1, [.nilFunc], .other, false⟩
theorem tiok26 : TIok Try.prog 26 ti26 := ⟨⟨_, Try.underlying26, fun _ h => (by cases h), fun _ _ h => (by cases h)⟩, by kernel_rfl, rfl, fun _ => ⟨rfl, rfl⟩, fun h => (by cases h)⟩
def ti29 : TI := ⟨1, [.nilFunc], .other, false⟩
theorem tiok29 : TIok Try.prog 29 ti29 := ⟨⟨_, Try.underlying29, fun _ h => (by cases h), fun _ _ h => (by cases h)⟩, by kernel_rfl, rfl, fun _ => ⟨rfl, rfl⟩, fun h => (by cases h)⟩
def ti32 : TI := ⟨1, [.nilFunc], .other, false⟩
theorem tiok32 : TIok Try.prog 32 ti32 := ⟨⟨_, Try.underlying32, fun _ h => (by cases h), fun _ _ h => (by cases h)⟩, by kernel_rfl, rfl, fun _ => ⟨rfl, rfl⟩, fun h => (by cases h)⟩
def ti39 : TI := ⟨1, [.nilFunc], .other, false⟩
theorem tiok39 : TIok Try.prog 39 ti39 := ⟨⟨_, Try.underlying39, fun _ h => (by cases h), fun _ _ h => (by cases h)⟩, by kernel_rfl, rfl, fun _ => ⟨rfl, rfl⟩, fun h => (by cases h)⟩
def ti41 : TI := ⟨1, [.nilFunc], .other, false⟩
theorem tiok41 : TIok Try.prog 41 ti41 := ⟨⟨_, Try.underlying41, fun _ h => (by cases h), fun _ _ h => (by cases h)⟩, by kernel_rfl, rfl, fun _ => ⟨rfl, rfl⟩, fun h => (by cases h)⟩
def ti42 : TI := ⟨1, [.nilFunc], .other, false⟩
theorem tiok42 : TIok Try.prog 42 ti42 := ⟨⟨_, Try.underlying42, fun _ h => (by cases h), fun _ _ h => (by cases h)⟩, by kernel_rfl, rfl, fun _ => ⟨rfl, rfl⟩, fun h => (by cases h)⟩
def ti43 : TI := ⟨1, [.nilFunc], .other, false⟩
theorem tiok43 : TIok Try.prog 43 ti43 := ⟨⟨_, Try.underlying43, fun _ h => (by cases h), fun _ _ h => (by cases h)⟩, by kernel_rfl, rfl, fun _ => ⟨rfl, rfl⟩, fun h => (by cases h)⟩
def ti44 : TI := ⟨1, [.nilFunc], .other, false⟩
theorem tiok44 : TIok Try.prog 44 ti44 := ⟨⟨_, Try.underlying44, fun _ h => (by cases h), fun _ _ h => (by cases h)⟩, by kernel_rfl, rfl, fun _ => ⟨rfl, rfl⟩, fun h => (by cases h)⟩
def ti48 : TI := ⟨1, [.nilFunc], .other, false⟩
theorem tiok48 : TIok Try.prog 48 ti48 := ⟨⟨_, Try.underlying48, fun _ h => (by cases h), fun _ _ h => (by cases h)⟩, by kernel_rfl, rfl, fun _ => ⟨rfl, rfl⟩, fun h => (by cases h)⟩
def ti50 : TI := ⟨1, [.nilFunc], .other, false⟩
theorem tiok50 : TIok Try.prog 50 ti50 := ⟨⟨_, Try.underlying50, fun _ h => (by cases h), fun _ _ h => (by cases h)⟩, by kernel_rfl, rfl, fun _ => ⟨rfl, rfl⟩, fun h => (by cases h)⟩
def ti52 : TI := ⟨1, [.nilFunc], .other, false⟩
theorem tiok52 : TIok Try.prog 52 ti52 := ⟨⟨_, Try.underlying52, fun _ h => (by cases h), fun _ _ h => (by cases h)⟩, by kernel_rfl, rfl, fun _ => ⟨rfl, rfl⟩, fun h => (by cases h)⟩
def ti53 : TI := ⟨1, [.nilFunc], .other, false⟩
theorem tiok53 : TIok Try.prog 53 ti53 := ⟨⟨_, Try.underlying53, fun _ h => (by cases h), fun _ _ h => (by cases h)⟩, by kernel_rfl, rfl, fun _ => ⟨rfl, rfl⟩, fun h => (by cases h)⟩
def ti54 : TI := ⟨1, [.nilFunc], .other, false⟩
theorem tiok54 : TIok Try.prog 54 ti54 := ⟨⟨_, Try.underlying54, fun _ h => (by cases h), fun _ _ h => (by cases h)⟩, by kernel_rfl, rfl, fun _ => ⟨rfl, rfl⟩, fun h => (by cases h)⟩
def ti56 : TI := ⟨1, [.nilFunc], .other, false⟩
theorem tiok56 : TIok Try.prog 56 ti56 := ⟨⟨_, Try.underlying56, fun _ h => (by cases h), fun _ _ h => (by cases h)⟩, by kernel_rfl, rfl, fun _ => ⟨rfl, rfl⟩, fun h => (by cases h)⟩
def ti57 : TI := ⟨1, [.nilFunc], .other, false⟩
theorem tiok57 : TIok Try.prog 57 ti57 := ⟨⟨_, Try.underlying57, fun _ h => (by cases h), fun _ _ h => (by cases h)⟩, by kernel_rfl, rfl, fun _ => ⟨rfl, rfl⟩, fun h => (by cases h)⟩
def ti58 : TI := ⟨1, [.nilFunc], .other, false⟩
theorem tiok58 : TIok Try.prog 58 ti58 := ⟨⟨_, Try.underlying58, fun _ h => (by cases h), fun _ _ h => (by cases h)⟩, by kernel_rfl, rfl, fun _ => ⟨rfl, rfl⟩, fun h => (by cases h)⟩
def ti59 : TI := ⟨1, [.nilFunc], .other, false⟩
theorem tiok59 : TIok Try.prog 59 ti59 := ⟨⟨_, Try.underlying59, fun _ h => (by cases h), fun _ _ h => (by cases h)⟩, by kernel_rfl, rfl, fun _ => ⟨rfl, rfl⟩, fun h => (by cases h)⟩
def ti60 : TI := ⟨1, [.nilFunc], .other, false⟩
theorem tiok60 : TIok Try.prog 60 ti60 := ⟨⟨_, Try.underlying60, fun _ h => (by cases h), fun _ _ h => (by cases h)⟩, by kernel_rfl, rfl, fun _ => ⟨rfl, rfl⟩, fun h => (by cases h)⟩
def ti63 : TI := ⟨1, [.nilFunc], .other, false⟩
theorem tiok63 : TIok Try.prog 63 ti63 := ⟨⟨_, Try.underlying63, fun _ h => (by cases h), fun _ _ h => (by cases h)⟩, by kernel_rfl, rfl, fun _ => ⟨rfl, rfl⟩, fun h => (by cases h)⟩
def ti66 : TI := ⟨1, [.nilFunc], .other, false⟩
theorem tiok66 : TIok Try.prog 66 ti66 := ⟨⟨_, Try.underlying66, fun _ h => (by cases h), fun _ _ h => (by cases h)⟩, by kernel_rfl, rfl, fun _ => ⟨rfl, rfl⟩, fun h => (by cases h)⟩
def ti67 : TI := ⟨1, [.nilFunc], .other, false⟩
theorem tiok67 : TIok Try.prog 67 ti67 := ⟨⟨_, Try.underlying67, fun _ h => (by cases h), fun _ _ h => (by cases h)⟩, by kernel_rfl, rfl, fun _ => ⟨rfl, rfl⟩, fun h => (by cases h)⟩
def ti68 : TI := ⟨1, [.int .u64 0], .int .u64, false⟩
theorem tiok68 : TIok Try.prog 68 ti68 := ⟨⟨_, Try.underlying68, rfl⟩, by kernel_rfl, rfl, fun _ => ⟨rfl, rfl⟩, fun h => (by cases h)⟩
def ti70 : TI := ⟨1, [.nilFunc], .other, false⟩
theorem tiok70 : TIok Try.prog 70 ti70 := ⟨⟨_, Try.underlying70, fun _ h => (by cases h), fun _ _ h => (by cases h)⟩, by kernel_rfl, rfl, fun _ => ⟨rfl, rfl⟩, fun h => (by cases h)⟩
def ti72 : TI := ⟨1, [.nilFunc], .other, false⟩
theorem tiok72 : TIok Try.prog 72 ti72 := ⟨⟨_, Try.underlying72, fun _ h => (by cases h), fun _ _ h => (by cases h)⟩, by kernel_rfl, rfl, fun _ => ⟨rfl, rfl⟩, fun h => (by cases h)⟩
def ti74 : TI := ⟨1, [.nilFunc], .other, false⟩
theorem tiok74 : TIok Try.prog 74 ti74 := ⟨⟨_, Try.underlying74, fun _ h => (by cases h), fun _ _ h => (by cases h)⟩, by kernel_rfl, rfl, fun _ => ⟨rfl, rfl⟩, fun h => (by cases h)⟩
def ti76 : TI := ⟨1, [.nilFunc], .other, false⟩
theorem tiok76 : TIok Try.prog 76 ti76 := ⟨⟨_, Try.underlying76, fun _ h => (by cases h), fun _ _ h => (by cases h)⟩, by kernel_rfl, rfl, fun _ => ⟨rfl, rfl⟩, fun h => (by cases h)⟩
def ti79 : TI := ⟨1, [.nilFunc], .other, false⟩
theorem tiok79 : TIok Try.prog 79 ti79 := ⟨⟨_, Try.underlying79, fun _ h => (by cases h), fun _ _ h => (by cases h)⟩, by kernel_rfl, rfl, fun _ => ⟨rfl, rfl⟩, fun h => (by cases h)⟩
def ti81 : TI := ⟨1, [.nilFunc], .other, false⟩
theorem tiok81 : TIok Try.prog 81 ti81 := ⟨⟨_, Try.underlying81, fun _ h => (by cases h), fun _ _ h => (by cases h)⟩, by kernel_rfl, rfl, fun _ => ⟨rfl, rfl⟩, fun h => (by cases h)⟩
def ti82 : TI := ⟨1, [.nilFunc], .other, false⟩
theorem tiok82 : TIok Try.prog 82 ti82 := ⟨⟨_, Try.underlying82, fun _ h => (by cases h), fun _ _ h => (by cases h)⟩, by kernel_rfl, rfl, fun _ => ⟨rfl, rfl⟩, fun h => (by cases h)⟩
def ti83 : TI := ⟨1, [.nilFunc], .other, false⟩
theorem tiok83 : TIok Try.prog 83 ti83 := ⟨⟨_, Try.underlying83, fun _ h => (by cases h), fun _ _ h => (by cases h)⟩, by kernel_rfl, rfl, fun _ => ⟨rfl, rfl⟩, fun h => (by cases h)⟩
def ti84 : TI := ⟨1, [.nilFunc], .other, false⟩
theorem tiok84 : TIok Try.prog 84 ti84 := ⟨⟨_, Try.underlying84, fun _ h => (by cases h), fun _ _ h => (by cases h)⟩, by kernel_rfl, rfl, fun _ => ⟨rfl, rfl⟩, fun h => (by cases h)⟩
def ti88 : TI := ⟨1, [.nilFunc], .other, false⟩
theorem tiok88 : TIok Try.prog 88 ti88 := ⟨⟨_, Try.underlying88, fun _ h => (by cases h), fun _ _ h => (by cases h)⟩, by kernel_rfl, rfl, fun _ => ⟨rfl, rfl⟩, fun h => (by cases h)⟩
def ti90 : TI := ⟨1, [.nilFunc], .other, false⟩
theorem tiok90 : TIok Try.prog 90 ti90 := ⟨⟨_, Try.underlying90, fun _ h => (by cases h), fun _ _ h => (by cases h)⟩, by kernel_rfl, rfl, fun _ => ⟨rfl, rfl⟩, fun h => (by cases h)⟩
def ti91 : TI := ⟨1, [.nilFunc], .other, false⟩
theorem tiok91 : TIok Try.prog 91 ti91 := ⟨⟨_, Try.underlying91, fun _ h => (by cases h), fun _ _ h => (by cases h)⟩, by kernel_rfl, rfl, fun _ => ⟨rfl, rfl⟩, fun h => (by cases h)⟩
def ti92 : TI := ⟨1, [.nilFunc], .other, false⟩
theorem tiok92 : TIok Try.prog 92 ti92 := ⟨⟨_, Try.underlying92, fun _ h => (by cases h), fun _ _ h => (by cases h)⟩, by kernel_rfl, rfl, fun _ => ⟨rfl, rfl⟩, fun h => (by cases h)⟩
def ti93 : TI := ⟨1, [.nilFunc], .other, false⟩
theorem tiok93 : TIok Try.prog 93 ti93 := ⟨⟨_, Try.underlying93, fun _ h => (by cases h), fun _ _ h => (by cases h)⟩, by kernel_rfl, rfl, fun _ => ⟨rfl, rfl⟩, fun h => (by cases h)⟩
def ti94 : TI := ⟨1, [.nilFunc], .other, false⟩
theorem tiok94 : TIok Try.prog 94 ti94 := ⟨⟨_, Try.underlying94, fun _ h => (by cases h), fun _ _ h => (by cases h)⟩, by kernel_rfl, rfl, fun _ => ⟨rfl, rfl⟩, fun h => (by cases h)⟩
def ti95 : TI := ⟨1, [.nilFunc], .other, false⟩
theorem tiok95 : TIok Try.prog 95 ti95 := ⟨⟨_, Try.underlying95, fun _ h => (by cases h), fun _ _ h => (by cases h)⟩, by kernel_rfl, rfl, fun _ => ⟨rfl, rfl⟩, fun h => (by cases h)⟩
def ti96 : TI := ⟨1, [.nilFunc], .other, false⟩
theorem tiok96 : TIok Try.prog 96 ti96 := ⟨⟨_, Try.underlying96, fun _ h => (by cases h), fun _ _ h => (by cases h)⟩, by kernel_rfl, rfl, fun _ => ⟨rfl, rfl⟩, fun h => (by cases h)⟩
def ti99 : TI := ⟨1, [.nilFunc], .other, false⟩
theorem tiok99 : TIok Try.prog 99 ti99 := ⟨⟨_, Try.underlying99, fun _ h => (by cases h), fun _ _ h => (by cases h)⟩, by kernel_rfl, rfl, fun _ => ⟨rfl, rfl⟩, fun h => (by cases h)⟩
def ti101 : TI := ⟨1, [.nilFunc], .other, false⟩
theorem tiok101 : TIok Try.prog 101 ti101 := ⟨⟨_, Try.underlying101, fun _ h => (by cases h), fun _ _ h => (by cases h)⟩, by kernel_rfl, rfl, fun _ => ⟨rfl, rfl⟩, fun h => (by cases h)⟩
def ti102 : TI := ⟨1, [.nilFunc], .other, false⟩
theorem tiok102 : TIok Try.prog 102 ti102 := ⟨⟨_, Try.underlying102, fun _ h => (by cases h), fun _ _ h => (by cases h)⟩, by kernel_rfl, rfl, fun _ => ⟨rfl, rfl⟩, fun h => (by cases h)⟩
def ti103 : TI := ⟨1, [.nilFunc], .other, false⟩
theorem tiok103 : TIok Try.prog 103 ti103 := ⟨⟨_, Try.underlying103, fun _ h => (by cases h), fun _ _ h => (by cases h)⟩, by kernel_rfl, rfl, fun _ => ⟨rfl, rfl⟩, fun h => (by cases h)⟩
def ti104 : TI := ⟨1, [.nilFunc], .other, false⟩
theorem tiok104 : TIok Try.prog 104 ti104 := ⟨⟨_, Try.underlying104, fun _ h => (by cases h), fun _ _ h => (by cases h)⟩, by kernel_rfl, rfl, fun _ => ⟨rfl, rfl⟩, fun h => (by cases h)⟩
def ti105 : TI := ⟨1, [.nilFunc], .other, false⟩
theorem tiok105 : TIok Try.prog 105 ti105 := ⟨⟨_, Try.underlying105, fun _ h => (by cases h), fun _ _ h => (by cases h)⟩, by kernel_rfl, rfl, fun _ => ⟨rfl, rfl⟩, fun h => (by cases h)⟩
def ti106 : TI := ⟨1, [.nilFunc], .other, false⟩
theorem tiok106 : TIok Try.prog 106 ti106 := ⟨⟨_, Try.underlying106, fun _ h => (by cases h), fun _ _ h => (by cases h)⟩, by kernel_rfl, rfl, fun _ => ⟨rfl, rfl⟩, fun h => (by cases h)⟩
def ti107 : TI := ⟨1, [.nilFunc], .other, false⟩
theorem tiok107 : TIok Try.prog 107 ti107 := ⟨⟨_, Try.underlying107, fun _ h => (by cases h), fun _ _ h => (by cases h)⟩, by kernel_rfl, rfl, fun _ => ⟨rfl, rfl⟩, fun h => (by cases h)⟩
def ti108 : TI := ⟨1, [.nilFunc], .other, false⟩
theorem tiok108 : TIok Try.prog 108 ti108 := ⟨⟨_, Try.underlying108, fun _ h => (by cases h), fun _ _ h => (by cases h)⟩, by kernel_rfl, rfl, fun _ => ⟨rfl, rfl⟩, fun h => (by cases h)⟩
def ti109 : TI := ⟨1, [.nilFunc], .other, false⟩
theorem tiok109 : TIok Try.prog 109 ti109 := ⟨⟨_, Try.underlying109, fun _ h => (by cases h), fun _ _ h => (by cases h)⟩, by kernel_rfl, rfl, fun _ => ⟨rfl, rfl⟩, fun h => (by cases h)⟩
def ti110 : TI := ⟨1, [.nilFunc], .other, false⟩
theorem tiok110 : TIok Try.prog 110 ti110 := ⟨⟨_, Try.underlying110, fun _ h => (by cases h), fun _ _ h => (by cases h)⟩, by kernel_rfl, rfl, fun _ => ⟨rfl, rfl⟩, fun h => (by cases h)⟩
def ti112 : TI := ⟨1, [.nilFunc], .other, false⟩
theorem tiok112 : TIok Try.prog 112 ti112 := ⟨⟨_, Try.underlying112, fun _ h => (by cases h), fun _ _ h => (by cases h)⟩, by kernel_rfl, rfl, fun _ => ⟨rfl, rfl⟩, fun h => (by cases h)⟩
def ti113 : TI := ⟨1, [.pointer none], .other, false⟩
theorem tiok113 : TIok Try.prog 113 ti113 := ⟨⟨_, Try.underlying113, fun _ h => (by cases h), fun _ _ h => (by cases h)⟩, by kernel_rfl, rfl, fun _ => ⟨rfl, rfl⟩, fun h => (by cases h)⟩
def ti114 : TI := ⟨1, [.nilFunc], .other, false⟩
theorem tiok114 : TIok Try.prog 114 ti114 := ⟨⟨_, Try.underlying114, fun _ h => (by cases h), fun _ _ h => (by cases h)⟩, by kernel_rfl, rfl, fun _ => ⟨rfl, rfl⟩, fun h => (by cases h)⟩
def ti115 : TI := ⟨1, [.nilFunc], .other, false⟩
theorem tiok115 : TIok Try.prog 115 ti115 := ⟨⟨_, Try.underlying115, fun _ h => (by cases h), fun _ _ h => (by cases h)⟩, by kernel_rfl, rfl, fun _ => ⟨rfl, rfl⟩, fun h => (by cases h)⟩
def ti116 : TI := ⟨1, [.pointer none], .other, false⟩
theorem tiok116 : TIok Try.prog 116 ti116 := ⟨⟨_, Try.underlying116, fun _ h => (by cases h), fun _ _ h => (by cases h)⟩, by kernel_rfl, rfl, fun _ => ⟨rfl, rfl⟩, fun h => (by cases h)⟩
def ti117 : TI := ⟨1, [.nilFunc], .other, false⟩
theorem tiok117 : TIok Try.prog 117 ti117 := ⟨⟨_, Try.underlying117, fun _ h => (by cases h), fun _ _ h => (by cases h)⟩, by kernel_rfl, rfl, fun _ => ⟨rfl, rfl⟩, fun h => (by cases h)⟩
def ti118 : TI := ⟨1, [.nilFunc], .other, false⟩
theorem tiok118 : TIok Try.prog 118 ti118 := ⟨⟨_, Try.underlying118, fun _ h => (by cases h), fun _ _ h => (by cases h)⟩, by kernel_rfl, rfl, fun _ => ⟨rfl, rfl⟩, fun h => (by cases h)⟩
def ti119 : TI := ⟨1, [.nilFunc], .other, false⟩
theorem tiok119 : TIok Try.prog 119 ti119 := ⟨⟨_, Try.underlying119, fun _ h => (by cases h), fun _ _ h => (by cases h)⟩, by kernel_rfl, rfl, fun _ => ⟨rfl, rfl⟩, fun h => (by cases h)⟩
def ti121 : TI := ⟨1, [.nilFunc], .other, false⟩
theorem tiok121 : TIok Try.prog 121 ti121 := ⟨⟨_, Try.underlying121, fun _ h => (by cases h), fun _ _ h => (by cases h)⟩, by kernel_rfl, rfl, fun _ => ⟨rfl, rfl⟩, fun h => (by cases h)⟩
def ti122 : TI := ⟨1, [.nilFunc], .other, false⟩
theorem tiok122 : TIok Try.prog 122 ti122 := ⟨⟨_, Try.underlying122, fun _ h => (by cases h), fun _ _ h => (by cases h)⟩, by kernel_rfl, rfl, fun _ => ⟨rfl, rfl⟩, fun h => (by cases h)⟩
def ti123 : TI := ⟨1, [.nilFunc], .other, false⟩
theorem tiok123 : TIok Try.prog 123 ti123 := ⟨⟨_, Try.underlying123, fun _ h => (by cases h), fun _ _ h => (by cases h)⟩, by kernel_rfl, rfl, fun _ => ⟨rfl, rfl⟩, fun h => (by cases h)⟩
def ti124 : TI := ⟨1, [.nilFunc], .other, false⟩
theorem tiok124 : TIok Try.prog 124 ti124 := ⟨⟨_, Try.underlying124, fun _ h => (by cases h), fun _ _ h => (by cases h)⟩, by kernel_rfl, rfl, fun _ => ⟨rfl, rfl⟩, fun h => (by cases h)⟩
def ti125 : TI := ⟨1, [.nilFunc], .other, false⟩
theorem tiok125 : TIok Try.prog 125 ti125 := ⟨⟨_, Try.underlying125, fun _ h => (by cases h), fun _ _ h => (by cases h)⟩, by kernel_rfl, rfl, fun _ => ⟨rfl, rfl⟩, fun h => (by cases h)⟩
def ti126 : TI := ⟨1, [.nilFunc], .other, false⟩
theorem tiok126 : TIok Try.prog 126 ti126 := ⟨⟨_, Try.underlying126, fun _ h => (by cases h), fun _ _ h => (by cases h)⟩, by kernel_rfl, rfl, fun _ => ⟨rfl, rfl⟩, fun h => (by cases h)⟩
def ti127 : TI := ⟨1, [.nilFunc], .other, false⟩
theorem tiok127 : TIok Try.prog 127 ti127 := ⟨⟨_, Try.underlying127, fun _ h => (by cases h), fun _ _ h => (by cases h)⟩, by kernel_rfl, rfl, fun _ => ⟨rfl, rfl⟩, fun h => (by cases h)⟩
def ti131 : TI := ⟨1, [.nilFunc], .other, false⟩
theorem tiok131 : TIok Try.prog 131 ti131 := ⟨⟨_, Try.underlying131, fun _ h => (by cases h), fun _ _ h => (by cases h)⟩, by kernel_rfl, rfl, fun _ => ⟨rfl, rfl⟩, fun h => (by cases h)⟩
def ti134 : TI := ⟨1, [.nilFunc], .other, false⟩
theorem tiok134 : TIok Try.prog 134 ti134 := ⟨⟨_, Try.underlying134, fun _ h => (by cases h), fun _ _ h => (by cases h)⟩, by kernel_rfl, rfl, fun _ => ⟨rfl, rfl⟩, fun h => (by cases h)⟩
def ti137 : TI := ⟨1, [.pointer none], .other, false⟩
theorem tiok137 : TIok Try.prog 137 ti137 := ⟨⟨_, Try.underlying137, fun _ h => (by cases h), fun _ _ h => (by cases h)⟩, by kernel_rfl, rfl, fun _ => ⟨rfl, rfl⟩, fun h => (by cases h)⟩
def ti140 : TI := ⟨1, [.nilIface], .other, false⟩
theorem tiok140 : TIok Try.prog 140 ti140 := ⟨⟨_, Try.underlying140, fun _ h => (by cases h), fun _ _ h => (by cases h)⟩, by kernel_rfl, rfl, fun _ => ⟨rfl, rfl⟩, fun h => (by cases h)⟩
def ti141 : TI := ⟨1, [.nilIface], .other, false⟩
theorem tiok141 : TIok Try.prog 141 ti141 := ⟨⟨_, Try.underlying141, fun _ h => (by cases h), fun _ _ h => (by cases h)⟩, by kernel_rfl, rfl, fun _ => ⟨rfl, rfl⟩, fun h => (by cases h)⟩
def ti142 : TI := ⟨1, [.nilFunc], .other, false⟩
theorem tiok142 : TIok Try.prog 142 ti142 := ⟨⟨_, Try.underlying142, fun _ h => (by cases h), fun _ _ h => (by cases h)⟩, by kernel_rfl, rfl, fun _ => ⟨rfl, rfl⟩, fun h => (by cases h)⟩
def ti143 : TI := ⟨1, [.nilFunc], .other, false⟩
theorem tiok143 : TIok Try.prog 143 ti143 := ⟨⟨_, Try.underlying143, fun _ h => (by cases h), fun _ _ h => (by cases h)⟩, by kernel_rfl, rfl, fun _ => ⟨rfl, rfl⟩, fun h => (by cases h)⟩
def ti145 : TI := ⟨1, [.nilFunc], .other, false⟩
theorem tiok145 : TIok Try.prog 145 ti145 := ⟨⟨_, Try.underlying145, fun _ h => (by cases h), fun _ _ h => (by cases h)⟩, by kernel_rfl, rfl, fun _ => ⟨rfl, rfl⟩, fun h => (by cases h)⟩
def ti146 : TI := ⟨1, [.nilFunc], .other, false⟩
theorem tiok146 : TIok Try.prog 146 ti146 := ⟨⟨_, Try.underlying146, fun _ h => (by cases h), fun _ _ h => (by cases h)⟩, by kernel_rfl, rfl, fun _ => ⟨rfl, rfl⟩, fun h => (by cases h)⟩
def ti147 : TI := ⟨1, [.nilFunc], .other, false⟩
theorem tiok147 : TIok Try.prog 147 ti147 := ⟨⟨_, Try.underlying147, fun _ h => (by cases h), fun _ _ h => (by cases h)⟩, by kernel_rfl, rfl, fun _ => ⟨rfl, rfl⟩, fun h => (by cases h)⟩
def ti149 : TI := ⟨1, [.nilFunc], .other, false⟩
theorem tiok149 : TIok Try.prog 149 ti149 := ⟨⟨_, Try.underlying149, fun _ h => (by cases h), fun _ _ h => (by cases h)⟩, by kernel_rfl, rfl, fun _ => ⟨rfl, rfl⟩, fun h => (by cases h)⟩
def ti150 : TI := ⟨1, [.nilFunc], .other, false⟩
theorem tiok150 : TIok Try.prog 150 ti150 := ⟨⟨_, Try.underlying150, fun _ h => (by cases h), fun _ _ h => (by cases h)⟩, by kernel_rfl, rfl, fun _ => ⟨rfl, rfl⟩, fun h => (by cases h)⟩
def ti151 : TI := ⟨1, [.nilFunc], .other, false⟩
theorem tiok151 : TIok Try.prog 151 ti151 := ⟨⟨_, Try.underlying151, fun _ h => (by cases h), fun _ _ h => (by cases h)⟩, by kernel_rfl, rfl, fun _ => ⟨rfl, rfl⟩, fun h => (by cases h)⟩
def ti152 : TI := ⟨1, [.nilFunc], .other, false⟩
theorem tiok152 : TIok Try.prog 152 ti152 := ⟨⟨_, Try.underlying152, fun _ h => (by cases h), fun _ _ h => (by cases h)⟩, by kernel_rfl, rfl, fun _ => ⟨rfl, rfl⟩, fun h => (by cases h)⟩
def ti154 : TI := ⟨1, [.nilFunc], .other, false⟩
theorem tiok154 : TIok Try.prog 154 ti154 := ⟨⟨_, Try.underlying154, fun _ h => (by cases h), fun _ _ h => (by cases h)⟩, by kernel_rfl, rfl, fun _ => ⟨rfl, rfl⟩, fun h => (by cases h)⟩
def ti155 : TI := ⟨1, [.nilFunc], .other, false⟩
theorem tiok155 : TIok Try.prog 155 ti155 := ⟨⟨_, Try.underlying155, fun _ h => (by cases h), fun _ _ h => (by cases h)⟩, by kernel_rfl, rfl, fun _ => ⟨rfl, rfl⟩, fun h => (by cases h)⟩
def ti157 : TI := ⟨1, [.nilFunc], .other, false⟩
theorem tiok157 : TIok Try.prog 157 ti157 := ⟨⟨_, Try.underlying157, fun _ h => (by cases h), fun _ _ h => (by cases h)⟩, by kernel_rfl, rfl, fun _ => ⟨rfl, rfl⟩, fun h => (by cases h)⟩
def ti158 : TI := ⟨1, [.nilFunc], .other, false⟩
theorem tiok158 : TIok Try.prog 158 ti158 := ⟨⟨_, Try.underlying158, fun _ h => (by cases h), fun _ _ h => (by cases h)⟩, by kernel_rfl, rfl, fun _ => ⟨rfl, rfl⟩, fun h => (by cases h)⟩
def ti159 : TI := ⟨1, [.nilFunc], .other, false⟩
theorem tiok159 : TIok Try.prog 159 ti159 := ⟨⟨_, Try.underlying159, fun _ h => (by cases h), fun _ _ h => (by cases h)⟩, by kernel_rfl, rfl, fun _ => ⟨rfl, rfl⟩, fun h => (by cases h)⟩
def ti160 : TI := ⟨1, [.nilFunc], .other, false⟩
theorem tiok160 : TIok Try.prog 160 ti160 := ⟨⟨_, Try.underlying160, fun _ h => (by cases h), fun _ _ h => (by cases h)⟩, by kernel_rfl, rfl, fun _ => ⟨rfl, rfl⟩, fun h => (by cases h)⟩
def ti161 : TI := ⟨1, [.nilFunc], .other, false⟩
theorem tiok161 : TIok Try.prog 161 ti161 := ⟨⟨_, Try.underlying161, fun _ h => (by cases h), fun _ _ h => (by cases h)⟩, by kernel_rfl, rfl, fun _ => ⟨rfl, rfl⟩, fun h => (by cases h)⟩
def ti162 : TI := ⟨1, [.nilFunc], .other, false⟩
theorem tiok162 : TIok Try.prog 162 ti162 := ⟨⟨_, Try.underlying162, fun _ h => (by cases h), fun _ _ h => (by cases h)⟩, by kernel_rfl, rfl, fun _ => ⟨rfl, rfl⟩, fun h => (by cases h)⟩
def ti163 : TI := ⟨1, [.nilFunc], .other, false⟩
theorem tiok163 : TIok Try.prog 163 ti163 := ⟨⟨_, Try.underlying163, fun _ h => (by cases h), fun _ _ h => (by cases h)⟩, by kernel_rfl, rfl, fun _ => ⟨rfl, rfl⟩, fun h => (by cases h)⟩
def ti164 : TI := ⟨1, [.nilFunc], .other, false⟩
theorem tiok164 : TIok Try.prog 164 ti164 := ⟨⟨_, Try.underlying164, fun _ h => (by cases h), fun _ _ h => (by cases h)⟩, by kernel_rfl, rfl, fun _ => ⟨rfl, rfl⟩, fun h => (by cases h)⟩
def ti165 : TI := ⟨1, [.int .u64 0], .int .u64, false⟩
theorem tiok165 : TIok Try.prog 165 ti165 := ⟨⟨_, Try.underlying165, rfl⟩, by kernel_rfl, rfl, fun _ => ⟨rfl, rfl⟩, fun h => (by cases h)⟩
def ti166 : TI := ⟨1, [.nilFunc], .other, false⟩
theorem tiok166 : TIok Try.prog 166 ti166 := ⟨⟨_, Try.underlying166, fun _ h => (by cases h), fun _ _ h => (by cases h)⟩, by kernel_rfl, rfl, fun _ => ⟨rfl, rfl⟩, fun h => (by cases h)⟩
def ti168 : TI := ⟨1, [.nilFunc], .other, false⟩
theorem tiok168 : TIok Try.prog 168 ti168 := ⟨⟨_, Try.underlying168, fun _ h => (by cases h), fun _ _ h => (by cases h)⟩, by kernel_rfl, rfl, fun _ => ⟨rfl, rfl⟩, fun h => (by cases h)⟩
def ti169 : TI := ⟨1, [.nilFunc], .other, false⟩
theorem tiok169 : TIok Try.prog 169 ti169 := ⟨⟨_, Try.underlying169, fun _ h => (by cases h), fun _ _ h => (by cases h)⟩, by kernel_rfl, rfl, fun _ => ⟨rfl, rfl⟩, fun h => (by cases h)⟩
def ti170 : TI := ⟨1, [.nilFunc], .other, false⟩
theorem tiok170 : TIok Try.prog 170 ti170 := ⟨⟨_, Try.underlying170, fun _ h => (by cases h), fun _ _ h => (by cases h)⟩, by kernel_rfl, rfl, fun _ => ⟨rfl, rfl⟩, fun h => (by cases h)⟩
def ti171 : TI := ⟨1, [.nilFunc], .other, false⟩
theorem tiok171 : TIok Try.prog 171 ti171 := ⟨⟨_, Try.underlying171, fun _ h => (by cases h), fun _ _ h => (by cases h)⟩, by kernel_rfl, rfl, fun _ => ⟨rfl, rfl⟩, fun h => (by cases h)⟩
def ti172 : TI := ⟨1, [.nilFunc], .other, false⟩
theorem tiok172 : TIok Try.prog 172 ti172 := ⟨⟨_, Try.underlying172, fun _ h => (by cases h), fun _ _ h => (by cases h)⟩, by kernel_rfl, rfl, fun _ => ⟨rfl, rfl⟩, fun h => (by cases h)⟩
def ti173 : TI := ⟨1, [.nilFunc], .other, false⟩
theorem tiok173 : TIok Try.prog 173 ti173 := ⟨⟨_, Try.underlying173, fun _ h => (by cases h), fun _ _ h => (by cases h)⟩, by kernel_rfl, rfl, fun _ => ⟨rfl, rfl⟩, fun h => (by cases h)⟩
def ti174 : TI := ⟨1, [.map none], .other, false⟩
theorem tiok174 : TIok Try.prog 174 ti174 := ⟨⟨_, Try.underlying174, fun _ h => (by cases h), fun _ _ h => (by cases h)⟩, by kernel_rfl, rfl, fun _ => ⟨rfl, rfl⟩, fun h => (by cases h)⟩
def ti175 : TI := ⟨1, [.nilFunc], .other, false⟩
theorem tiok175 : TIok Try.prog 175 ti175 := ⟨⟨_, Try.underlying175, fun _ h => (by cases h), fun _ _ h => (by cases h)⟩, by kernel_rfl, rfl, fun _ => ⟨rfl, rfl⟩, fun h => (by cases h)⟩
def ti176 : TI := ⟨1, [.nilFunc], .other, false⟩
theorem tiok176 : TIok Try.prog 176 ti176 := ⟨⟨_, Try.underlying176, fun _ h => (by cases h), fun _ _ h => (by cases h)⟩, by kernel_rfl, rfl, fun _ => ⟨rfl, rfl⟩, fun h => (by cases h)⟩
def ti178 : TI := ⟨1, [.nilFunc], .other, false⟩
theorem tiok178 : TIok Try.prog 178 ti178 := ⟨⟨_, Try.underlying178, fun _ h => (by cases h), fun _ _ h => (by cases h)⟩, by kernel_rfl, rfl, fun _ => ⟨rfl, rfl⟩, fun h => (by cases h)⟩
def ti179 : TI := ⟨1, [.nilFunc], .other, false⟩
theorem tiok179 : TIok Try.prog 179 ti179 := ⟨⟨_, Try.underlying179, fun _ h => (by cases h), fun _ _ h => (by cases h)⟩, by kernel_rfl, rfl, fun _ => ⟨rfl, rfl⟩, fun h => (by cases h)⟩
def ti181 : TI := ⟨1, [.nilFunc], .other, false⟩
theorem tiok181 : TIok Try.prog 181 ti181 := ⟨⟨_, Try.underlying181, fun _ h => (by cases h), fun _ _ h => (by cases h)⟩, by kernel_rfl, rfl, fun _ => ⟨rfl, rfl⟩, fun h => (by cases h)⟩
def ti182 : TI := ⟨1, [.nilFunc], .other, false⟩
theorem tiok182 : TIok Try.prog 182 ti182 := ⟨⟨_, Try.underlying182, fun _ h => (by cases h), fun _ _ h => (by cases h)⟩, by kernel_rfl, rfl, fun _ => ⟨rfl, rfl⟩, fun h => (by cases h)⟩
def ti183 : TI := ⟨1, [.nilFunc], .other, false⟩
theorem tiok183 : TIok Try.prog 183 ti183 := ⟨⟨_, Try.underlying183, fun _ h => (by cases h), fun _ _ h => (by cases h)⟩, by kernel_rfl, rfl, fun _ => ⟨rfl, rfl⟩, fun h => (by cases h)⟩
def ti184 : TI := ⟨1, [.nilFunc], .other, false⟩
theorem tiok184 : TIok Try.prog 184 ti184 := ⟨⟨_, Try.underlying184, fun _ h => (by cases h), fun _ _ h => (by cases h)⟩, by kernel_rfl, rfl, fun _ => ⟨rfl, rfl⟩, fun h => (by cases h)⟩
def ti185 : TI := ⟨1, [.nilFunc], .other, false⟩
theorem tiok185 : TIok Try.prog 185 ti185 := ⟨⟨_, Try.underlying185, fun _ h => (by cases h), fun _ _ h => (by cases h)⟩, by kernel_rfl, rfl, fun _ => ⟨rfl, rfl⟩, fun h => (by cases h)⟩
def ti189 : TI := ⟨1, [.nilFunc], .other, false⟩
theorem tiok189 : TIok Try.prog 189 ti189 := ⟨⟨_, Try.underlying189, fun _ h => (by cases h), fun _ _ h => (by cases h)⟩, by kernel_rfl, rfl, fun _ => ⟨rfl, rfl⟩, fun h => (by cases h)⟩
def ti190 : TI := ⟨1, [.pointer none], .other, false⟩
theorem tiok190 : TIok Try.prog 190 ti190 := ⟨⟨_, Try.underlying190, fun _ h => (by cases h), fun _ _ h => (by cases h)⟩, by kernel_rfl, rfl, fun _ => ⟨rfl, rfl⟩, fun h => (by cases h)⟩
def ti191 : TI := ⟨1, [.nilFunc], .other, false⟩
theorem tiok191 : TIok Try.prog 191 ti191 := ⟨⟨_, Try.underlying191, fun _ h => (by cases h), fun _ _ h => (by cases h)⟩, by kernel_rfl, rfl, fun _ => ⟨rfl, rfl⟩, fun h => (by cases h)⟩
def ti192 : TI := ⟨1, [.nilFunc], .other, false⟩
theorem tiok192 : TIok Try.prog 192 ti192 := ⟨⟨_, Try.underlying192, fun _ h => (by cases h), fun _ _ h => (by cases h)⟩, by kernel_rfl, rfl, fun _ => ⟨rfl, rfl⟩, fun h => (by cases h)⟩
def ti193 : TI := ⟨1, [.nilFunc], .other, false⟩
theorem tiok193 : TIok Try.prog 193 ti193 := ⟨⟨_, Try.underlying193, fun _ h => (by cases h), fun _ _ h => (by cases h)⟩, by kernel_rfl, rfl, fun _ => ⟨rfl, rfl⟩, fun h => (by cases h)⟩
def ti194 : TI := ⟨1, [.nilFunc], .other, false⟩
theorem tiok194 : TIok Try.prog 194 ti194 := ⟨⟨_, Try.underlying194, fun _ h => (by cases h), fun _ _ h => (by cases h)⟩, by kernel_rfl, rfl, fun _ => ⟨rfl, rfl⟩, fun h => (by cases h)⟩
def ti197 : TI := ⟨1, [.nilFunc], .other, false⟩
theorem tiok197 : TIok Try.prog 197 ti197 := ⟨⟨_, Try.underlying197, fun _ h => (by cases h), fun _ _ h => (by cases h)⟩, by kernel_rfl, rfl, fun _ => ⟨rfl, rfl⟩, fun h => (by cases h)⟩
def ti198 : TI := ⟨1, [.nilFunc], .other, false⟩
theorem tiok198 : TIok Try.prog 198 ti198 := ⟨⟨_, Try.underlying198, fun _ h => (by cases h), fun _ _ h => (by cases h)⟩, by kernel_rfl, rfl, fun _ => ⟨rfl, rfl⟩, fun h => (by cases h)⟩
def ti199 : TI := ⟨1, [.nilFunc], .other, false⟩
theorem tiok199 : TIok Try.prog 199 ti199 := ⟨⟨_, Try.underlying199, fun _ h => (by cases h), fun _ _ h => (by cases h)⟩, by kernel_rfl, rfl, fun _ => ⟨rfl, rfl⟩, fun h => (by cases h)⟩
def ti200 : TI := ⟨1, [.nilFunc], .other, false⟩
theorem tiok200 : TIok Try.prog 200 ti200 := ⟨⟨_, Try.underlying200, fun _ h => (by cases h), fun _ _ h => (by cases h)⟩, by kernel_rfl, rfl, fun _ => ⟨rfl, rfl⟩, fun h => (by cases h)⟩
def ti201 : TI := ⟨1, [.nilFunc], .other, false⟩
theorem tiok201 : TIok Try.prog 201 ti201 := ⟨⟨_, Try.underlying201, fun _ h => (by cases h), fun _ _ h => (by cases h)⟩, by kernel_rfl, rfl, fun _ => ⟨rfl, rfl⟩, fun h => (by cases h)⟩
def ti202 : TI := ⟨1, [.nilFunc], .other, false⟩
theorem tiok202 : TIok Try.prog 202 ti202 := ⟨⟨_, Try.underlying202, fun _ h => (by cases h), fun _ _ h => (by cases h)⟩, by kernel_rfl, rfl, fun _ => ⟨rfl, rfl⟩, fun h => (by cases h)⟩
def ti203 : TI := ⟨1, [.pointer none], .other, false⟩
theorem tiok203 : TIok Try.prog 203 ti203 := ⟨⟨_, Try.underlying203, fun _ h => (by cases h), fun _ _ h => (by cases h)⟩, by kernel_rfl, rfl, fun _ => ⟨rfl, rfl⟩, fun h => (by cases h)⟩
def ti204 : TI := ⟨1, [.nilFunc], .other, false⟩
theorem tiok204 : TIok Try.prog 204 ti204 := ⟨⟨_, Try.underlying204, fun _ h => (by cases h), fun _ _ h => (by cases h)⟩, by kernel_rfl, rfl, fun _ => ⟨rfl, rfl⟩, fun h => (by cases h)⟩
def ti205 : TI := ⟨1, [.nilFunc], .other, false⟩
theorem tiok205 : TIok Try.prog 205 ti205 := ⟨⟨_, Try.underlying205, fun _ h => (by cases h), fun _ _ h => (by cases h)⟩, by kernel_rfl, rfl, fun _ => ⟨rfl, rfl⟩, fun h => (by cases h)⟩
def ti206 : TI := ⟨1, [.nilFunc], .other, false⟩
theorem tiok206 : TIok Try.prog 206 ti206 := ⟨⟨_, Try.underlying206, fun _ h => (by cases h), fun _ _ h => (by cases h)⟩, by kernel_rfl, rfl, fun _ => ⟨rfl, rfl⟩, fun h => (by cases h)⟩
def ti207 : TI := ⟨1, [.nilFunc], .other, false⟩
theorem tiok207 : TIok Try.prog 207 ti207 := ⟨⟨_, Try.underlying207, fun _ h => (by cases h), fun _ _ h => (by cases h)⟩, by kernel_rfl, rfl, fun _ => ⟨rfl, rfl⟩, fun h => (by cases h)⟩
def ti208 : TI := ⟨1, [.nilFunc], .other, false⟩
theorem tiok208 : TIok Try.prog 208 ti208 := ⟨⟨_, Try.underlying208, fun _ h => (by cases h), fun _ _ h => (by cases h)⟩, by kernel_rfl, rfl, fun _ => ⟨rfl, rfl⟩, fun h => (by cases h)⟩
def ti209 : TI := ⟨1, [.nilFunc], .other, false⟩
theorem tiok209 : TIok Try.prog 209 ti209 := ⟨⟨_, Try.underlying209, fun _ h => (by cases h), fun _ _ h => (by cases h)⟩, by kernel_rfl, rfl, fun _ => ⟨rfl, rfl⟩, fun h => (by cases h)⟩
def ti210 : TI := ⟨1, [.nilFunc], .other, false⟩
theorem tiok210 : TIok Try.prog 210 ti210 := ⟨⟨_, Try.underlying210, fun _ h => (by cases h), fun _ _ h => (by cases h)⟩, by kernel_rfl, rfl, fun _ => ⟨rfl, rfl⟩, fun h => (by cases h)⟩
def ti211 : TI := ⟨1, [.nilFunc], .other, false⟩
theorem tiok211 : TIok Try.prog 211 ti211 := ⟨⟨_, Try.underlying211, fun _ h => (by cases h), fun _ _ h => (by cases h)⟩, by kernel_rfl, rfl, fun _ => ⟨rfl, rfl⟩, fun h => (by cases h)⟩
def ti212 : TI := ⟨1, [.nilFunc], .other, false⟩
theorem tiok212 : TIok Try.prog 212 ti212 := ⟨⟨_, Try.underlying212, fun _ h => (by cases h), fun _ _ h => (by cases h)⟩, by kernel_rfl, rfl, fun _ => ⟨rfl, rfl⟩, fun h => (by cases h)⟩
def ti213 : TI := ⟨1, [.int .u32 0], .int .u32, false⟩
theorem tiok213 : TIok Try.prog 213 ti213 := ⟨⟨_, Try.underlying213, rfl⟩, by kernel_rfl, rfl, fun _ => ⟨rfl, rfl⟩, fun h => (by cases h)⟩
def ti215 : TI := ⟨1, [.nilFunc], .other, false⟩
theorem tiok215 : TIok Try.prog 215 ti215 := ⟨⟨_, Try.underlying215, fun _ h => (by cases h), fun _ _ h => (by cases h)⟩, by kernel_rfl, rfl, fun _ => ⟨rfl, rfl⟩, fun h => (by cases h)⟩
def ti223 : TI := ⟨1, [.nilFunc], .other, false⟩
theorem tiok223 : TIok Try.prog 223 ti223 := ⟨⟨_, Try.underlying223, fun _ h => (by cases h), fun _ _ h => (by cases h)⟩, by kernel_rfl, rfl, fun _ => ⟨rfl, rfl⟩, fun h => (by cases h)⟩
def ti224 : TI := ⟨1, [.int .i32 0], .int .i32, false⟩
theorem tiok224 : TIok Try.prog 224 ti224 := ⟨⟨_, Try.underlying224, rfl⟩, by kernel_rfl, rfl, fun _ => ⟨rfl, rfl⟩, fun h => (by cases h)⟩
def ti225 : TI := ⟨1, [.int .i32 0], .int .i32, false⟩
theorem tiok225 : TIok Try.prog 225 ti225 := ⟨⟨_, Try.underlying225, rfl⟩, by kernel_rfl, rfl, fun _ => ⟨rfl, rfl⟩, fun h => (by cases h)⟩
def tt : TT := [(2, ti2), (3, ti3), (4, ti4), (5, ti5), (6, ti6), (9, ti9), (10, ti10), (11, ti11), (37, ti37), (221, ti221), (222, ti222), (7, ti7), (8, ti8), (13, ti13), (14, ti14), (18, ti18), (19, ti19), (22, ti22), (23, ti23), (27, ti27), (28, ti28), (30, ti30), (31, ti31), (33, ti33), (34, ti34), (35, ti35), (36, ti36), (45, ti45), (46, ti46), (61, ti61), (64, ti64), (77, ti77), (85, ti85), (86, ti86), (97, ti97), (128, ti128), (129, ti129), (132, ti132), (135, ti135), (136, ti136), (138, ti138), (139, ti139), (148, ti148), (186, ti186), (187, ti187), (195, ti195), (196, ti196), (216, ti216), (217, ti217), (226, ti226), (227, ti227), (1, ti1), (12, ti12), (15, ti15), (16, ti16), (17, ti17), (20, ti20), (21, ti21), (24, ti24), (25, ti25), (26, ti26), (29, ti29), (32, ti32), (39, ti39), (41, ti41), (42, ti42), (43, ti43), (44, ti44), (48, ti48), (50, ti50), (52, ti52), (53, ti53), (54, ti54), (56, ti56), (57, ti57), (58, ti58), (59, ti59), (60, ti60), (63, ti63), (66, ti66), (67, ti67), (68, ti68), (70, ti70), (72, ti72), (74, ti74), (76, ti76), (79, ti79), (81, ti81), (82, ti82), (83, ti83), (84, ti84), (88, ti88), (90, ti90), (91, ti91), (92, ti92), (93, ti93), (94, ti94), (95, ti95), (96, ti96), (99, ti99), (101, ti101), (102, ti102), (103, ti103), (104, ti104), (105, ti105), (106, ti106), (107, ti107), (108, ti108), (109, ti109), (110, ti110), (112, ti112), (113, ti113), (114, ti114), (115, ti115), (116, ti116), (117, ti117), (118, ti118), (119, ti119), (121, ti121), (122, ti122), (123, ti123), (124, ti124), (125, ti125), (126, ti126), (127, ti127), (131, ti131), (134, ti134), (137, ti137), (140, ti140), (141, ti141), (142, ti142), (143, ti143), (145, ti145), (146, ti146), (147, ti147), (149, ti149), (150, ti150), (151, ti151), (152, ti152), (154, ti154), (155, ti155), (157, ti157), (158, ti158), (159, ti159), (160, ti160), (161, ti161), (162, ti162), (163, ti163), (164, ti164), (165, ti165), (166, ti166), (168, ti168), (169, ti169), (170, ti170), (171, ti171), (172, ti172), (173, ti173), (174, ti174), (175, ti175), (176, ti176), (178, ti178), (179, ti179), (181, ti181), (182, ti182), (183, ti183), (184, ti184), (185, ti185), (189, ti189), (190, ti190), (191, ti191), (192, ti192), (193, ti193), (194, ti194), (197, ti197), (198, ti198), (199, ti199), (200, ti200), (201, ti201), (202, ti202), (203, ti203), (204, ti204), (205, ti205), (206, ti206), (207, ti207), (208, ti208), (209, ti209), (210, ti210), (211, ti211), (212, ti212), (213, ti213), (215, ti215), (223, ti223), (224, ti224), (225, ti225)]
theorem tt_ok : TOk Try.prog tt := TOk.cons tiok2 (TOk.cons tiok3 (TOk.cons tiok4 (TOk.cons tiok5 (TOk.cons tiok6 (TOk.cons tiok9 (TOk.cons tiok10 (TOk.cons tiok11 (TOk.cons tiok37 (TOk.cons tiok221 (TOk.cons tiok222 (TOk.cons tiok7 (TOk.cons tiok8 (TOk.cons tiok13 (TOk.cons tiok14 (TOk.cons tiok18 (TOk.cons tiok19 (TOk.cons tiok22 (TOk.cons tiok23 (TOk.cons tiok27 (TOk.cons tiok28 (TOk.cons tiok30 (TOk.cons tiok31 (TOk.cons tiok33 (TOk.cons tiok34 (TOk.cons tiok35 (TOk.cons tiok36 (TOk.cons tiok45 (TOk.cons tiok46 (TOk.cons tiok61 (TOk.cons tiok64 (TOk.cons tiok77 (TOk.cons tiok85 (TOk.cons tiok86 (TOk.cons tiok97 (TOk.cons tiok128 (TOk.cons tiok129 (TOk.cons tiok132 (TOk.cons tiok135 (TOk.cons tiok136 (TOk.cons tiok138 (TOk.cons tiok139 (TOk.cons tiok148 (TOk.cons tiok186 (TOk.cons tiok187 (TOk.cons tiok195 (TOk.cons tiok196 (TOk.cons tiok216 (TOk.cons tiok217 (TOk.cons tiok226 (TOk.cons tiok227 (TOk.cons tiok1 (TOk.cons tiok12 (TOk.cons tiok15 (TOk.cons tiok16 (TOk.cons tiok17 (TOk.cons tiok20 (TOk.cons tiok21 (TOk.cons tiok24 (TOk.cons tiok25 (TOk.cons tiok26 (TOk.cons tiok29 (TOk.cons tiok32 (TOk.cons tiok39 (TOk.cons tiok41 (TOk.cons tiok42 (TOk.cons tiok43 (TOk.cons tiok44 (TOk.cons tiok48 (TOk.cons tiok50 (TOk.cons tiok52 (TOk.cons tiok53 (TOk.cons tiok54 (TOk.cons tiok56 (TOk.cons tiok57 (TOk.cons tiok58 (TOk.cons tiok59 (TOk.cons tiok60 (TOk.cons tiok63 (TOk.cons tiok66 (TOk.cons tiok67 (TOk.cons tiok68 (TOk.cons tiok70 (TOk.cons tiok72 (TOk.cons tiok74 (TOk.cons tiok76 (TOk.cons tiok79 (TOk.cons tiok81 (TOk.cons tiok82 (TOk.cons tiok83 (TOk.cons tiok84 (TOk.cons tiok88 (TOk.cons tiok90 (TOk.cons tiok91 (TOk.cons tiok92 (TOk.cons tiok93 (TOk.cons tiok94 (TOk.cons tiok95 (TOk.cons tiok96 (TOk.cons tiok99 (TOk.cons tiok101 (TOk.cons tiok102 (TOk.cons tiok103 (TOk.cons tiok104 (TOk.cons tiok105 (TOk.cons tiok106 (TOk.cons tiok107 (TOk.cons tiok108 (TOk.cons tiok109 (TOk.cons tiok110 (TOk.cons tiok112 (TOk.cons tiok113 (TOk.cons tiok114 (TOk.cons tiok115 (TOk.cons tiok116 (TOk.cons tiok117 (TOk.cons tiok118 (TOk.cons tiok119 (TOk.cons tiok121 (TOk.cons tiok122 (TOk.cons tiok123 (TOk.cons tiok124 (TOk.cons tiok125 (TOk.cons tiok126 (TOk.cons tiok127 (TOk.cons tiok131 (TOk.cons tiok134 (TOk.cons tiok137 (TOk.cons tiok140 (TOk.cons tiok141 (TOk.cons tiok142 (TOk.cons tiok143 (TOk.cons tiok145 (TOk.cons tiok146 (TOk.cons tiok147 (TOk.cons tiok149 (TOk.cons tiok150 (TOk.cons tiok151 (TOk.cons tiok152 (TOk.cons tiok154 (TOk.cons tiok155 (TOk.cons tiok157 (TOk.cons tiok158 (TOk.cons tiok159 (TOk.cons tiok160 (TOk.cons tiok161 (TOk.cons tiok162 (TOk.cons tiok163 (TOk.cons tiok164 (TOk.cons tiok165 (TOk.cons tiok166 (TOk.cons tiok168 (TOk.cons tiok169 (TOk.cons tiok170 (TOk.cons tiok171 (TOk.cons tiok172 (TOk.cons tiok173 (TOk.cons tiok174 (TOk.cons tiok175 (TOk.cons tiok176 (TOk.cons tiok178 (TOk.cons tiok179 (TOk.cons tiok181 (TOk.cons tiok182 (TOk.cons tiok183 (TOk.cons tiok184 (TOk.cons tiok185 (TOk.cons tiok189 (TOk.cons tiok190 (TOk.cons tiok191 (TOk.cons tiok192 (TOk.cons tiok193 (TOk.cons tiok194 (TOk.cons tiok197 (TOk.cons tiok198 (TOk.cons tiok199 (TOk.cons tiok200 (TOk.cons tiok201 (TOk.cons tiok202 (TOk.cons tiok203 (TOk.cons tiok204 (TOk.cons tiok205 (TOk.cons tiok206 (TOk.cons tiok207 (TOk.cons tiok208 (TOk.cons tiok209 (TOk.cons tiok210 (TOk.cons tiok211 (TOk.cons tiok212 (TOk.cons tiok213 (TOk.cons tiok215 (TOk.cons tiok223 (TOk.cons tiok224 (TOk.cons tiok225 (TOk.nil _))))))))))))))))))))))))))))))))))))))))))))))))))))))))))))))))))))))))))))))))))))))))))))))))))))))))))))))))))))))))))))))))))))))))))))))))))))))))))))))))))))))))))))))))))))))))))))))))))
theorem fn3 : Fn1 Try.prog 3 := ⟨fun a w => run_callFunc Try.func3 rfl (by kernel_rfl) a w⟩
theorem fn4 : Fn1 Try.prog 4 := ⟨fun a w => run_callFunc Try.func4 rfl (by kernel_rfl) a w⟩
theorem fn5 : Fn1 Try.prog 5 := ⟨fun a w => run_callFunc Try.func5 rfl (by kernel_rfl) a w⟩
theorem fn6 : Fn1 Try.prog 6 := ⟨fun a w => run_callFunc Try.func6 rfl (by kernel_rfl) a w⟩
theorem fn7 : Fn1 Try.prog 7 := ⟨fun a w => run_callFunc Try.func7 rfl (by kernel_rfl) a w⟩
theorem fn8 : Fn1 Try.prog 8 := ⟨fun a w => run_callFunc Try.func8 rfl (by kernel_rfl) a w⟩
theorem fn9 : Fn1 Try.prog 9 := ⟨fun a w => run_callFunc Try.func9 rfl (by kernel_rfl) a w⟩
theorem fn10 : Fn1 Try.prog 10 := ⟨fun a w => run_callFunc Try.func10 rfl (by kernel_rfl) a w⟩
theorem fn11 : Fn1 Try.prog 11 := ⟨fun a w => run_callFunc Try.func11 rfl (by kernel_rfl) a w⟩
theorem fn12 : Fn1 Try.prog 12 := ⟨fun a w => run_callFunc Try.func12 rfl (by kernel_rfl) a w⟩
theorem fn13 : Fn1 Try.prog 13 := ⟨fun a w => run_callFunc Try.func13 rfl (by kernel_rfl) a w⟩
theorem fn14 : Fn1 Try.prog 14 := ⟨fun a w => run_callFunc Try.func14 rfl (by kernel_rfl) a w⟩
theorem fn15 : Fn1 Try.prog 15 := ⟨fun a w => run_callFunc Try.func15 rfl (by kernel_rfl) a w⟩
theorem fn16 : Fn1 Try.prog 16 := ⟨fun a w => run_callFunc Try.func16 rfl (by kernel_rfl) a w⟩
theorem fn17 : Fn1 Try.prog 17 := ⟨fun a w => run_callFunc Try.func17 rfl (by kernel_rfl) a w⟩
theorem fn18 : Fn1 Try.prog 18 := ⟨fun a w => run_callFunc Try.func18 rfl (by kernel_rfl) a w⟩
theorem fn19 : Fn1 Try.prog 19 := ⟨fun a w => run_callFunc Try.func19 rfl (by kernel_rfl) a w⟩
theorem fn20 : Fn1 Try.prog 20 := ⟨fun a w => run_callFunc Try.func20 rfl (by kernel_rfl) a w⟩
theorem fn21 : Fn1 Try.prog 21 := ⟨fun a w => run_callFunc Try.func21 rfl (by kernel_rfl) a w⟩
theorem fn22 : Fn1 Try.prog 22 := ⟨fun a w => run_callFunc Try.func22 rfl (by kernel_rfl) a w⟩
theorem fn23 : Fn1 Try.prog 23 := ⟨fun a w => run_callFunc Try.func23 rfl (by kernel_rfl) a w⟩
theorem fn24 : Fn1 Try.prog 24 := ⟨fun a w => run_callFunc Try.func24 rfl (by kernel_rfl) a w⟩
theorem fn25 : Fn1 Try.prog 25 := ⟨fun a w => run_callFunc Try.func25 rfl (by kernel_rfl) a w⟩
theorem fn26 : Fn1 Try.prog 26 := ⟨fun a w => run_callFunc Try.func26 rfl (by kernel_rfl) a w⟩
theorem fn27 : Fn1 Try.prog 27 := ⟨fun a w => run_callFunc Try.func27 rfl (by kernel_rfl) a w⟩
theorem fn28 : Fn1 Try.prog 28 := ⟨fun a w => run_callFunc Try.func28 rfl (by kernel_rfl) a w⟩
theorem fn29 : Fn1 Try.prog 29 := ⟨fun a w => run_callFunc Try.func29 rfl (by kernel_rfl) a w⟩
theorem fn30 : Fn1 Try.prog 30 := ⟨fun a w => run_callFunc Try.func30 rfl (by kernel_rfl) a w⟩
theorem fn31 : Fn1 Try.prog 31 := ⟨fun a w => run_callFunc Try.func31 rfl (by kernel_rfl) a w⟩
theorem fn32 : Fn1 Try.prog 32 := ⟨fun a w => run_callFunc Try.func32 rfl (by kernel_rfl) a w⟩
theorem fn33 : Fn1 Try.prog 33 := ⟨fun a w => run_callFunc Try.func33 rfl (by kernel_rfl) a w⟩
theorem fn34 : Fn1 Try.prog 34 := ⟨fun a w => run_callFunc Try.func34 rfl (by kernel_rfl) a w⟩
theorem fn35 : Fn1 Try.prog 35 := ⟨fun a w => run_callFunc Try.func35 rfl (by kernel_rfl) a w⟩
theorem fn36 : Fn1 Try.prog 36 := ⟨fun a w => run_callFunc Try.func36 rfl (by kernel_rfl) a w⟩
theorem fn37 : Fn1 Try.prog 37 := ⟨fun a w => run_callFunc Try.func37 rfl (by kernel_rfl) a w⟩
theorem fn38 : Fn1 Try.prog 38 := ⟨fun a w => run_callFunc Try.func38 rfl (by kernel_rfl) a w⟩
theorem fn39 : Fn1 Try.prog 39 := ⟨fun a w => run_callFunc Try.func39 rfl (by kernel_rfl) a w⟩
theorem fn40 : Fn1 Try.prog 40 := ⟨fun a w => run_callFunc Try.func40 rfl (by kernel_rfl) a w⟩
theorem fn41 : Fn1 Try.prog 41 := ⟨fun a w => run_callFunc Try.func41 rfl (by kernel_rfl) a w⟩
theorem fn42 : Fn1 Try.prog 42 := ⟨fun a w => run_callFunc Try.func42 rfl (by kernel_rfl) a w⟩
theorem fn43 : Fn1 Try.prog 43 := ⟨fun a w => run_callFunc Try.func43 rfl (by kernel_rfl) a w⟩
theorem fn44 : Fn1 Try.prog 44 := ⟨fun a w => run_callFunc Try.func44 rfl (by kernel_rfl) a w⟩
theorem fn45 : Fn1 Try.prog 45 := ⟨fun a w => run_callFunc Try.func45 rfl (by kernel_rfl) a w⟩
theorem fn46 : Fn1 Try.prog 46 := ⟨fun a w => run_callFunc Try.func46 rfl (by kernel_rfl) a w⟩
theorem fn47 : Fn1 Try.prog 47 := ⟨fun a w => run_callFunc Try.func47 rfl (by kernel_rfl) a w⟩
theorem fn48 : Fn1 Try.prog 48 := ⟨fun a w => run_callFunc Try.func48 rfl (by kernel_rfl) a w⟩
theorem fn49 : Fn1 Try.prog 49 := ⟨fun a w => run_callFunc Try.func49 rfl (by kernel_rfl) a w⟩
theorem fn50 : Fn1 Try.prog 50 := ⟨fun a w => run_callFunc Try.func50 rfl (by kernel_rfl) a w⟩
theorem fn51 : Fn1 Try.prog 51 := ⟨fun a w => run_callFunc Try.func51 rfl (by kernel_rfl) a w⟩
theorem fn52 : Fn1 Try.prog 52 := ⟨fun a w => run_callFunc Try.func52 rfl (by kernel_rfl) a w⟩
theorem fn53 : Fn1 Try.prog 53 := ⟨fun a w => run_callFunc Try.func53 rfl (by kernel_rfl) a w⟩
theorem fn54 : Fn1 Try.prog 54 := ⟨fun a w => run_callFunc Try.func54 rfl (by kernel_rfl) a w⟩
theorem fn55 : Fn1 Try.prog 55 := ⟨fun a w => run_callFunc Try.func55 rfl (by kernel_rfl) a w⟩
theorem fn56 : Fn1 Try.prog 56 := ⟨fun a w => run_callFunc Try.func56 rfl (by kernel_rfl) a w⟩
theorem fn57 : Fn1 Try.prog 57 := ⟨fun a w => run_callFunc Try.func57 rfl (by kernel_rfl) a w⟩
theorem fn58 : Fn1 Try.prog 58 := ⟨fun a w => run_callFunc Try.func58 rfl (by kernel_rfl) a w⟩
theorem fn59 : Fn1 Try.prog 59 := ⟨fun a w => run_callFunc Try.func59 rfl (by kernel_rfl) a w⟩
theorem fn60 : Fn1 Try.prog 60 := ⟨fun a w => run_callFunc Try.func60 rfl (by kernel_rfl) a w⟩
theorem fn61 : Fn1 Try.prog 61 := ⟨fun a w => run_callFunc Try.func61 rfl (by kernel_rfl) a w⟩
theorem fn62 : Fn1 Try.prog 62 := ⟨fun a w => run_callFunc Try.func62 rfl (by kernel_rfl) a w⟩
theorem fn63 : Fn1 Try.prog 63 := ⟨fun a w => run_callFunc Try.func63 rfl (by kernel_rfl) a w⟩
theorem fn64 : Fn1 Try.prog 64 := ⟨fun a w => run_callFunc Try.func64 rfl (by kernel_rfl) a w⟩
theorem fn65 : Fn1 Try.prog 65 := ⟨fun a w => run_callFunc Try.func65 rfl (by kernel_rfl) a w⟩
theorem fn66 : Fn1 Try.prog 66 := ⟨fun a w => run_callFunc Try.func66 rfl (by kernel_rfl) a w⟩
theorem fn67 : Fn1 Try.prog 67 := ⟨fun a w => run_callFunc Try.func67 rfl (by kernel_rfl) a w⟩
theorem fn68 : Fn1 Try.prog 68 := ⟨fun a w => run_callFunc Try.func68 rfl (by kernel_rfl) a w⟩
theorem fn69 : Fn1 Try.prog 69 := ⟨fun a w => run_callFunc Try.func69 rfl (by kernel_rfl) a w⟩
theorem fn70 : Fn1 Try.prog 70 := ⟨fun a w => run_callFunc Try.func70 rfl (by kernel_rfl) a w⟩
theorem fn71 : Fn1 Try.prog 71 := ⟨fun a w => run_callFunc Try.func71 rfl (by kernel_rfl) a w⟩
theorem fn72 : Fn1 Try.prog 72 := ⟨fun a w => run_callFunc Try.func72 rfl (by kernel_rfl) a w⟩
theorem fn73 : Fn1 Try.prog 73 := ⟨fun a w => run_callFunc Try.func73 rfl (by kernel_rfl) a w⟩
theorem fn74 : Fn1 Try.prog 74 := ⟨fun a w => run_callFunc Try.func74 rfl (by kernel_rfl) a w⟩
theorem fn75 : Fn1 Try.prog 75 := ⟨fun a w => run_callFunc Try.func75 rfl (by kernel_rfl) a w⟩
theorem fn76 : Fn1 Try.prog 76 := ⟨fun a w => run_callFunc Try.func76 rfl (by kernel_rfl) a w⟩
theorem fn77 : Fn1 Try.prog 77 := ⟨fun a w => run_callFunc Try.func77 rfl (by kernel_rfl) a w⟩
theorem fn78 : Fn1 Try.prog 78 := ⟨fun a w => run_callFunc Try.func78 rfl (by kernel_rfl) a w⟩
theorem fn79 : Fn1 Try.prog 79 := ⟨fun a w => run_callFunc Try.func79 rfl (by kernel_rfl) a w⟩
theorem fn80 : Fn1 Try.prog 80 := ⟨fun a w => run_callFunc Try.func80 rfl (by kernel_rfl) a w⟩
theorem fn81 : Fn1 Try.prog 81 := ⟨fun a w => run_callFunc Try.func81 rfl (by kernel_rfl) a w⟩
theorem fn82 : Fn1 Try.prog 82 := ⟨fun a w => run_callFunc Try.func82 rfl (by kernel_rfl) a w⟩
theorem fn83 : Fn1 Try.prog 83 := ⟨fun a w => run_callFunc Try.func83 rfl (by kernel_rfl) a w⟩
theorem fn84 : Fn1 Try.prog 84 := ⟨fun a w => run_callFunc Try.func84 rfl (by kernel_rfl) a w⟩
theorem fn85 : Fn1 Try.prog 85 := ⟨fun a w => run_callFunc Try.func85 rfl (by kernel_rfl) a w⟩
theorem fn86 : Fn1 Try.prog 86 := ⟨fun a w => run_callFunc Try.func86 rfl (by kernel_rfl) a w⟩
theorem fn87 : Fn1 Try.prog 87 := ⟨fun a w => run_callFunc Try.func87 rfl (by kernel_rfl) a w⟩
theorem fn88 : Fn1 Try.prog 88 := ⟨fun a w => run_callFunc Try.func88 rfl (by kernel_rfl) a w⟩
theorem fn89 : Fn1 Try.prog 89 := ⟨fun a w => run_callFunc Try.func89 rfl (by kernel_rfl) a w⟩
theorem fn90 : Fn1 Try.prog 90 := ⟨fun a w => run_callFunc Try.func90 rfl (by kernel_rfl) a w⟩
theorem fn91 : Fn1 Try.prog 91 := ⟨fun a w => run_callFunc Try.func91 rfl (by kernel_rfl) a w⟩
theorem fn92 : Fn1 Try.prog 92 := ⟨fun a w => run_callFunc Try.func92 rfl (by kernel_rfl) a w⟩
theorem fn93 : Fn1 Try.prog 93 := ⟨fun a w => run_callFunc Try.func93 rfl (by kernel_rfl) a w⟩
theorem fn94 : Fn1 Try.prog 94 := ⟨fun a w => run_callFunc Try.func94 rfl (by kernel_rfl) a w⟩
theorem fn95 : Fn1 Try.prog 95 := ⟨fun a w => run_callFunc Try.func95 rfl (by kernel_rfl) a w⟩
theorem fn96 : Fn1 Try.prog 96 := ⟨fun a w => run_callFunc Try.func96 rfl (by kernel_rfl) a w⟩
theorem fn97 : Fn1 Try.prog 97 := ⟨fun a w => run_callFunc Try.func97 rfl (by kernel_rfl) a w⟩
theorem fn98 : Fn1 Try.prog 98 := ⟨fun a w => run_callFunc Try.func98 rfl (by kernel_rfl) a w⟩
theorem fn99 : Fn1 Try.prog 99 := ⟨fun a w => run_callFunc Try.func99 rfl (by kernel_rfl) a w⟩
theorem fn100 : Fn1 Try.prog 100 := ⟨fun a w => run_callFunc Try.func100 rfl (by kernel_rfl) a w⟩
theorem fn101 : Fn1 Try.prog 101 := ⟨fun a w => run_callFunc Try.func101 rfl (by kernel_rfl) a w⟩
theorem fn102 : Fn1 Try.prog 102 := ⟨fun a w => run_callFunc Try.func102 rfl (by kernel_rfl) a w⟩
theorem fn103 : Fn1 Try.prog 103 := ⟨fun a w => run_callFunc Try.func103 rfl (by kernel_rfl) a w⟩
theorem fn104 : Fn1 Try.prog 104 := ⟨fun a w => run_callFunc Try.func104 rfl (by kernel_rfl) a w⟩
theorem fn105 : Fn1 Try.prog 105 := ⟨fun a w => run_callFunc Try.func105 rfl (by kernel_rfl) a w⟩
theorem fn106 : Fn1 Try.prog 106 := ⟨fun a w => run_callFunc Try.func106 rfl (by kernel_rfl) a w⟩
theorem fn107 : Fn1 Try.prog 107 := ⟨fun a w => run_callFunc Try.func107 rfl (by kernel_rfl) a w⟩
theorem fn108 : Fn1 Try.prog 108 := ⟨fun a w => run_callFunc Try.func108 rfl (by kernel_rfl) a w⟩
theorem fn109 : Fn1 Try.prog 109 := ⟨fun a w => run_callFunc Try.func109 rfl (by kernel_rfl) a w⟩
theorem fn110 : Fn1 Try.prog 110 := ⟨fun a w => run_callFunc Try.func110 rfl (by kernel_rfl) a w⟩
theorem fn111 : Fn1 Try.prog 111 := ⟨fun a w => run_callFunc Try.func111 rfl (by kernel_rfl) a w⟩
theorem fn113 : Fn1 Try.prog 113 := ⟨fun a w => run_callFunc Try.func113 rfl (by kernel_rfl) a w⟩
theorem fn114 : Fn1 Try.prog 114 := ⟨fun a w => run_callFunc Try.func114 rfl (by kernel_rfl) a w⟩
theorem fn115 : Fn1 Try.prog 115 := ⟨fun a w => run_callFunc Try.func115 rfl (by kernel_rfl) a w⟩
theorem fn116 : Fn1 Try.prog 116 := ⟨fun a w => run_callFunc Try.func116 rfl (by kernel_rfl) a w⟩
theorem fn117 : Fn1 Try.prog 117 := ⟨fun a w => run_callFunc Try.func117 rfl (by kernel_rfl) a w⟩
theorem fn118 : Fn1 Try.prog 118 := ⟨fun a w => run_callFunc Try.func118 rfl (by kernel_rfl) a w⟩
theorem fn119 : Fn1 Try.prog 119 := ⟨fun a w => run_callFunc Try.func119 rfl (by kernel_rfl) a w⟩
theorem fn120 : Fn1 Try.prog 120 := ⟨fun a w => run_callFunc Try.func120 rfl (by kernel_rfl) a w⟩
theorem fn121 : Fn1 Try.prog 121 := ⟨fun a w => run_callFunc Try.func121 rfl (by kernel_rfl) a w⟩
theorem fn122 : Fn1 Try.prog 122 := ⟨fun a w => run_callFunc Try.func122 rfl (by kernel_rfl) a w⟩
theorem fn123 : Fn1 Try.prog 123 := ⟨fun a w => run_callFunc Try.func123 rfl (by kernel_rfl) a w⟩
theorem fn124 : Fn1 Try.prog 124 := ⟨fun a w => run_callFunc Try.func124 rfl (by kernel_rfl) a w⟩
theorem fn125 : Fn1 Try.prog 125 := ⟨fun a w => run_callFunc Try.func125 rfl (by kernel_rfl) a w⟩
theorem fn126 : Fn1 Try.prog 126 := ⟨fun a w => run_callFunc Try.func126 rfl (by kernel_rfl) a w⟩
theorem fn127 : Fn1 Try.prog 127 := ⟨fun a w => run_callFunc Try.func127 rfl (by kernel_rfl) a w⟩
theorem fn128 : Fn1 Try.prog 128 := ⟨fun a w => run_callFunc Try.func128 rfl (by kernel_rfl) a w⟩
theorem fn129 : Fn1 Try.prog 129 := ⟨fun a w => run_callFunc Try.func129 rfl (by kernel_rfl) a w⟩
theorem fn130 : Fn1 Try.prog 130 := ⟨fun a w => run_callFunc Try.func130 rfl (by kernel_rfl) a w⟩
theorem fn131 : Fn1 Try.prog 131 := ⟨fun a w => run_callFunc Try.func131 rfl (by kernel_rfl) a w⟩
theorem fn132 : Fn1 Try.prog 132 := ⟨fun a w => run_callFunc Try.func132 rfl (by kernel_rfl) a w⟩
theorem fn133 : Fn1 Try.prog 133 := ⟨fun a w => run_callFunc Try.func133 rfl (by kernel_rfl) a w⟩
theorem fn134 : Fn1 Try.prog 134 := ⟨fun a w => run_callFunc Try.func134 rfl (by kernel_rfl) a w⟩
theorem fn135 : Fn1 Try.prog 135 := ⟨fun a w => run_callFunc Try.func135 rfl (by kernel_rfl) a w⟩
theorem fn136 : Fn1 Try.prog 136 := ⟨fun a w => run_callFunc Try.func136 rfl (by kernel_rfl) a w⟩
theorem fn137 : Fn1 Try.prog 137 := ⟨fun a w => run_callFunc Try.func137 rfl (by kernel_rfl) a w⟩
theorem fn138 : Fn1 Try.prog 138 := ⟨fun a w => run_callFunc Try.func138 rfl (by kernel_rfl) a w⟩
theorem fn139 : Fn1 Try.prog 139 := ⟨fun a w => run_callFunc Try.func139 rfl (by kernel_rfl) a w⟩
theorem fn140 : Fn1 Try.prog 140 := ⟨fun a w => run_callFunc Try.func140 rfl (by kernel_rfl) a w⟩
theorem fn141 : Fn1 Try.prog 141 := ⟨fun a w => run_callFunc Try.func141 rfl (by kernel_rfl) a w⟩
theorem fn142 : Fn1 Try.prog 142 := ⟨fun a w => run_callFunc Try.func142 rfl (by kernel_rfl) a w⟩
theorem fn143 : Fn1 Try.prog 143 := ⟨fun a w => run_callFunc Try.func143 rfl (by kernel_rfl) a w⟩
theorem fn144 : Fn1 Try.prog 144 := ⟨fun a w => run_callFunc Try.func144 rfl (by kernel_rfl) a w⟩
theorem fn145 : Fn1 Try.prog 145 := ⟨fun a w => run_callFunc Try.func145 rfl (by kernel_rfl) a w⟩
theorem fn146 : Fn1 Try.prog 146 := ⟨fun a w => run_callFunc Try.func146 rfl (by kernel_rfl) a w⟩
theorem fn147 : Fn1 Try.prog 147 := ⟨fun a w => run_callFunc Try.func147 rfl (by kernel_rfl) a w⟩
theorem fn148 : Fn1 Try.prog 148 := ⟨fun a w => run_callFunc Try.func148 rfl (by kernel_rfl) a w⟩
theorem fn149 : Fn1 Try.prog 149 := ⟨fun a w => run_callFunc Try.func149 rfl (by kernel_rfl) a w⟩
theorem fn150 : Fn1 Try.prog 150 := ⟨fun a w => run_callFunc Try.func150 rfl (by kernel_rfl) a w⟩
theorem fn151 : Fn1 Try.prog 151 := ⟨fun a w => run_callFunc Try.func151 rfl (by kernel_rfl) a w⟩
theorem fn152 : Fn1 Try.prog 152 := ⟨fun a w => run_callFunc Try.func152 rfl (by kernel_rfl) a w⟩
theorem fn153 : Fn1 Try.prog 153 := ⟨fun a w => run_callFunc Try.func153 rfl (by kernel_rfl) a w⟩
theorem fn154 : Fn1 Try.prog 154 := ⟨fun a w => run_callFunc Try.func154 rfl (by kernel_rfl) a w⟩
theorem fn155 : Fn1 Try.prog 155 := ⟨fun a w => run_callFunc Try.func155 rfl (by kernel_rfl) a w⟩
theorem fn156 : Fn1 Try.prog 156 := ⟨fun a w => run_callFunc Try.func156 rfl (by kernel_rfl) a w⟩
theorem fn157 : Fn1 Try.prog 157 := ⟨fun a w => run_callFunc Try.func157 rfl (by kernel_rfl) a w⟩
theorem fn160 : Fn1 Try.prog 160 := ⟨fun a w => run_callFunc Try.func160 rfl (by kernel_rfl) a w⟩
theorem fn161 : Fn1 Try.prog 161 := ⟨fun a w => run_callFunc Try.func161 rfl (by kernel_rfl) a w⟩
theorem fn162 : Fn1 Try.prog 162 := ⟨fun a w => run_callFunc Try.func162 rfl (by kernel_rfl) a w⟩
theorem fn163 : Fn1 Try.prog 163 := ⟨fun a w => run_callFunc Try.func163 rfl (by kernel_rfl) a w⟩
theorem fn164 : Fn1 Try.prog 164 := ⟨fun a w => run_callFunc Try.func164 rfl (by kernel_rfl) a w⟩
theorem fn165 : Fn1 Try.prog 165 := ⟨fun a w => run_callFunc Try.func165 rfl (by kernel_rfl) a w⟩
theorem fn166 : Fn1 Try.prog 166 := ⟨fun a w => run_callFunc Try.func166 rfl (by kernel_rfl) a w⟩
theorem fn167 : Fn1 Try.prog 167 := ⟨fun a w => run_callFunc Try.func167 rfl (by kernel_rfl) a w⟩
theorem fn168 : Fn1 Try.prog 168 := ⟨fun a w => run_callFunc Try.func168 rfl (by kernel_rfl) a w⟩
theorem fn169 : Fn1 Try.prog 169 := ⟨fun a w => run_callFunc Try.func169 rfl (by kernel_rfl) a w⟩
theorem fn170 : Fn1 Try.prog 170 := ⟨fun a w => run_callFunc Try.func170 rfl (by kernel_rfl) a w⟩
theorem fn171 : Fn1 Try.prog 171 := ⟨fun a w => run_callFunc Try.func171 rfl (by kernel_rfl) a w⟩
theorem fn172 : Fn1 Try.prog 172 := ⟨fun a w => run_callFunc Try.func172 rfl (by kernel_rfl) a w⟩
theorem fn173 : Fn1 Try.prog 173 := ⟨fun a w => run_callFunc Try.func173 rfl (by kernel_rfl) a w⟩
theorem fn174 : Fn1 Try.prog 174 := ⟨fun a w => run_callFunc Try.func174 rfl (by kernel_rfl) a w⟩
theorem fn176 : Fn1 Try.prog 176 := ⟨fun a w => run_callFunc Try.func176 rfl (by kernel_rfl) a w⟩
theorem fn177 : Fn1 Try.prog 177 := ⟨fun a w => run_callFunc Try.func177 rfl (by kernel_rfl) a w⟩
theorem fn178 : Fn1 Try.prog 178 := ⟨fun a w => run_callFunc Try.func178 rfl (by kernel_rfl) a w⟩
theorem fn179 : Fn1 Try.prog 179 := ⟨fun a w => run_callFunc Try.func179 rfl (by kernel_rfl) a w⟩
theorem fn180 : Fn1 Try.prog 180 := ⟨fun a w => run_callFunc Try.func180 rfl (by kernel_rfl) a w⟩
theorem fn181 : Fn1 Try.prog 181 := ⟨fun a w => run_callFunc Try.func181 rfl (by kernel_rfl) a w⟩
theorem fn182 : Fn1 Try.prog 182 := ⟨fun a w => run_callFunc Try.func182 rfl (by kernel_rfl) a w⟩
theorem fn183 : Fn1 Try.prog 183 := ⟨fun a w => run_callFunc Try.func183 rfl (by kernel_rfl) a w⟩
theorem fn184 : Fn1 Try.prog 184 := ⟨fun a w => run_callFunc Try.func184 rfl (by kernel_rfl) a w⟩
theorem fn185 : Fn1 Try.prog 185 := ⟨fun a w => run_callFunc Try.func185 rfl (by kernel_rfl) a w⟩
theorem fn187 : Fn1 Try.prog 187 := ⟨fun a w => run_callFunc Try.func187 rfl (by kernel_rfl) a w⟩
end Go.Proofs.Ytdonomneofdhfaa
