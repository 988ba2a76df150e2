/- Part 3 of the lemmas behind the claim: Ty, S1, K, E1, E2, E3, R1, E4, E5, H. -/
import Derived.Test.YtdonomneofdhfaaZE2
import Derived.Test.YtdonomneofdhfaaProg
import Derived.KernelRfl
import Derived.Laws.Externs
import Derived.Shelf.Small.Strs
import Derived.Shelf.Strings.Search3
import Derived.Shelf.LaysM
set_option linter.unusedSimpArgs false
set_option linter.unusedVariables false
namespace Go.Proofs.Ytdonomneofdhfaa
open Go.GV
def ti2 : TI := ⟨1, [.int .i64 0], .int .i64, false⟩
theorem tiok2 : TIok Try.prog 2 ti2 := ⟨⟨_, Try.underlying2, rfl⟩, by kernel_rfl, rfl, fun _ => ⟨rfl, rfl⟩, fun h => (by cases h)⟩
def ti3 : TI := ⟨1, [.int .i64 0], .int .i64, false⟩
theorem tiok3 : TIok Try.prog 3 ti3 := ⟨⟨_, Try.underlying3, rfl⟩, by kernel_rfl, rfl, fun _ => ⟨rfl, rfl⟩, fun h => (by cases h)⟩
def ti4 : TI := ⟨1, [.bool false], .bool, false⟩
theorem tiok4 : TIok Try.prog 4 ti4 := ⟨⟨_, Try.underlying4, rfl⟩, by kernel_rfl, rfl, fun _ => ⟨rfl, rfl⟩, fun h => (by cases h)⟩
def ti5 : TI := ⟨1, [.int .u8 0], .int .u8, false⟩
theorem tiok5 : TIok Try.prog 5 ti5 := ⟨⟨_, Try.underlying5, rfl⟩, by kernel_rfl, rfl, fun _ => ⟨rfl, rfl⟩, fun h => (by cases h)⟩
def ti6 : TI := ⟨1, [.int .u8 0], .int .u8, false⟩
theorem tiok6 : TIok Try.prog 6 ti6 := ⟨⟨_, Try.underlying6, rfl⟩, by kernel_rfl, rfl, fun _ => ⟨rfl, rfl⟩, fun h => (by cases h)⟩
def ti9 : TI := ⟨1, [.string ⟨#[]⟩], .str, false⟩
theorem tiok9 : TIok Try.prog 9 ti9 := ⟨⟨_, Try.underlying9, rfl⟩, by kernel_rfl, rfl, fun _ => ⟨rfl, rfl⟩, fun h => (by cases h)⟩
def ti10 : TI := ⟨1, [.string ⟨#[]⟩], .str, false⟩
theorem tiok10 : TIok Try.prog 10 ti10 := ⟨⟨_, Try.underlying10, rfl⟩, by kernel_rfl, rfl, fun _ => ⟨rfl, rfl⟩, fun h => (by cases h)⟩
def ti11 : TI := ⟨1, [.string ⟨#[]⟩], .str, false⟩
theorem tiok11 : TIok Try.prog 11 ti11 := ⟨⟨_, Try.underlying11, rfl⟩, by kernel_rfl, rfl, fun _ => ⟨rfl, rfl⟩, fun h => (by cases h)⟩
def ti37 : TI := ⟨1, [.int .i64 0], .int .i64, false⟩
theorem tiok37 : TIok Try.prog 37 ti37 := ⟨⟨_, Try.underlying37, rfl⟩, by kernel_rfl, rfl, fun _ => ⟨rfl, rfl⟩, fun h => (by cases h)⟩
def ti221 : TI := ⟨1, [.int .u8 0], .int .u8, false⟩
theorem tiok221 : TIok Try.prog 221 ti221 := ⟨⟨_, Try.underlying221, rfl⟩, by kernel_rfl, rfl, fun _ => ⟨rfl, rfl⟩, fun h => (by cases h)⟩
def ti222 : TI := ⟨1, [.int .u8 0], .int .u8, false⟩
theorem tiok222 : TIok Try.prog 222 ti222 := ⟨⟨_, Try.underlying222, rfl⟩, by kernel_rfl, rfl, fun _ => ⟨rfl, rfl⟩, fun h => (by cases h)⟩
def ti7 : TI := ⟨4, [.int .i64 0, .int .i64 0, .bool false, .int .u8 0], .strct [(0, 2), (1, 3), (2, 4), (3, 6)], false⟩
theorem tiok7 : TIok Try.prog 7 ti7 := ⟨⟨_, Try.underlying7, _, rfl, rfl⟩, by kernel_rfl, rfl, fun h => (by cases h), fun h => (by cases h)⟩
def ti8 : TI := ⟨4, [.int .i64 0, .int .i64 0, .bool false, .int .u8 0], .strct [(0, 2), (1, 3), (2, 4), (3, 6)], false⟩
theorem tiok8 : TIok Try.prog 8 ti8 := ⟨⟨_, Try.underlying8, _, rfl, rfl⟩, by kernel_rfl, rfl, fun h => (by cases h), fun h => (by cases h)⟩
def ti13 : TI := ⟨2, [.string ⟨#[]⟩, .int .u64 0], .strct [(0, 9), (1, 12)], false⟩
theorem tiok13 : TIok Try.prog 13 ti13 := ⟨⟨_, Try.underlying13, _, rfl, rfl⟩, by kernel_rfl, rfl, fun h => (by cases h), fun h => (by cases h)⟩
def ti14 : TI := ⟨2, [.string ⟨#[]⟩, .int .u64 0], .strct [(0, 9), (1, 12)], false⟩
theorem tiok14 : TIok Try.prog 14 ti14 := ⟨⟨_, Try.underlying14, _, rfl, rfl⟩, by kernel_rfl, rfl, fun h => (by cases h), fun h => (by cases h)⟩
def ti18 : TI := ⟨1, [.pointer none], .strct [(0, 17)], false⟩
theorem tiok18 : TIok Try.prog 18 ti18 := ⟨⟨_, Try.underlying18, _, rfl, rfl⟩, by kernel_rfl, rfl, fun h => (by cases h), fun h => (by cases h)⟩
def ti19 : TI := ⟨1, [.pointer none], .strct [(0, 17)], false⟩
theorem tiok19 : TIok Try.prog 19 ti19 := ⟨⟨_, Try.underlying19, _, rfl, rfl⟩, by kernel_rfl, rfl, fun h => (by cases h), fun h => (by cases h)⟩
def ti22 : TI := ⟨1, [.slice none 0 0], .slice 31, false⟩
theorem tiok22 : TIok Try.prog 22 ti22 := ⟨⟨_, Try.underlying22, rfl⟩, by kernel_rfl, rfl, fun _ => ⟨rfl, rfl⟩, fun h => (by cases h)⟩
def ti23 : TI := ⟨1, [.slice none 0 0], .slice 28, false⟩
theorem tiok23 : TIok Try.prog 23 ti23 := ⟨⟨_, Try.underlying23, rfl⟩, by kernel_rfl, rfl, fun _ => ⟨rfl, rfl⟩, fun h => (by cases h)⟩
def ti27 : TI := ⟨3, [.bool false, .string ⟨#[]⟩, .slice none 0 0], .strct [(0, 4), (1, 9), (2, 22)], false⟩
theorem tiok27 : TIok Try.prog 27 ti27 := ⟨⟨_, Try.underlying27, _, rfl, rfl⟩, by kernel_rfl, rfl, fun h => (by cases h), fun h => (by cases h)⟩
def ti28 : TI := ⟨3, [.bool false, .string ⟨#[]⟩, .slice none 0 0], .strct [(0, 4), (1, 9), (2, 22)], false⟩
theorem tiok28 : TIok Try.prog 28 ti28 := ⟨⟨_, Try.underlying28, _, rfl, rfl⟩, by kernel_rfl, rfl, fun h => (by cases h), fun h => (by cases h)⟩
def ti30 : TI := ⟨5, [.int .i64 0, .string ⟨#[]⟩, .int .i64 0, .int .i64 0, .bool false], .strct [(0, 3), (1, 9), (2, 3), (3, 3), (4, 4)], true⟩
theorem tiok30 : TIok Try.prog 30 ti30 := ⟨⟨_, Try.underlying30, _, rfl, rfl⟩, by kernel_rfl, rfl, fun h => (by cases h), fun _ => ⟨by kernel_rfl, by kernel_rfl, by kernel_rfl⟩⟩
def ti31 : TI := ⟨5, [.int .i64 0, .string ⟨#[]⟩, .int .i64 0, .int .i64 0, .bool false], .strct [(0, 3), (1, 9), (2, 3), (3, 3), (4, 4)], true⟩
theorem tiok31 : TIok Try.prog 31 ti31 := ⟨⟨_, Try.underlying31, _, rfl, rfl⟩, by kernel_rfl, rfl, fun h => (by cases h), fun _ => ⟨by kernel_rfl, by kernel_rfl, by kernel_rfl⟩⟩
def ti33 : TI := ⟨1, [.slice none 0 0], .slice 9, false⟩
theorem tiok33 : TIok Try.prog 33 ti33 := ⟨⟨_, Try.underlying33, rfl⟩, by kernel_rfl, rfl, fun _ => ⟨rfl, rfl⟩, fun h => (by cases h)⟩
def ti34 : TI := ⟨1, [.slice none 0 0], .slice 46, false⟩
theorem tiok34 : TIok Try.prog 34 ti34 := ⟨⟨_, Try.underlying34, rfl⟩, by kernel_rfl, rfl, fun _ => ⟨rfl, rfl⟩, fun h => (by cases h)⟩
def ti35 : TI := ⟨5, [.string ⟨#[]⟩, .bool false, .slice none 0 0, .bool false, .slice none 0 0], .strct [(0, 9), (1, 4), (2, 33), (3, 4), (4, 34)], false⟩
theorem tiok35 : TIok Try.prog 35 ti35 := ⟨⟨_, Try.underlying35, _, rfl, rfl⟩, by kernel_rfl, rfl, fun h => (by cases h), fun h => (by cases h)⟩
def ti36 : TI := ⟨5, [.string ⟨#[]⟩, .bool false, .slice none 0 0, .bool false, .slice none 0 0], .strct [(0, 9), (1, 4), (2, 33), (3, 4), (4, 34)], false⟩
theorem tiok36 : TIok Try.prog 36 ti36 := ⟨⟨_, Try.underlying36, _, rfl, rfl⟩, by kernel_rfl, rfl, fun h => (by cases h), fun h => (by cases h)⟩
def ti45 : TI := ⟨4, [.int .i64 0, .string ⟨#[]⟩, .bool false, .slice none 0 0], .strct [(0, 3), (1, 9), (2, 4), (3, 33)], false⟩
theorem tiok45 : TIok Try.prog 45 ti45 := ⟨⟨_, Try.underlying45, _, rfl, rfl⟩, by kernel_rfl, rfl, fun h => (by cases h), fun h => (by cases h)⟩
def ti46 : TI := ⟨4, [.int .i64 0, .string ⟨#[]⟩, .bool false, .slice none 0 0], .strct [(0, 3), (1, 9), (2, 4), (3, 33)], false⟩
theorem tiok46 : TIok Try.prog 46 ti46 := ⟨⟨_, Try.underlying46, _, rfl, rfl⟩, by kernel_rfl, rfl, fun h => (by cases h), fun h => (by cases h)⟩
def ti61 : TI := ⟨1, [.slice none 0 0], .slice 5, false⟩
theorem tiok61 : TIok Try.prog 61 ti61 := ⟨⟨_, Try.underlying61, rfl⟩, by kernel_rfl, rfl, fun _ => ⟨rfl, rfl⟩, fun h => (by cases h)⟩
def ti64 : TI := ⟨1, [.slice none 0 0], .slice 3, false⟩
theorem tiok64 : TIok Try.prog 64 ti64 := ⟨⟨_, Try.underlying64, rfl⟩, by kernel_rfl, rfl, fun _ => ⟨rfl, rfl⟩, fun h => (by cases h)⟩
def ti77 : TI := ⟨1, [.slice none 0 0], .slice 2, false⟩
theorem tiok77 : TIok Try.prog 77 ti77 := ⟨⟨_, Try.underlying77, rfl⟩, by kernel_rfl, rfl, fun _ => ⟨rfl, rfl⟩, fun h => (by cases h)⟩
def ti85 : TI := ⟨2, [.int .i64 0, .string ⟨#[]⟩], .strct [(0, 3), (1, 9)], true⟩
theorem tiok85 : TIok Try.prog 85 ti85 := ⟨⟨_, Try.underlying85, _, rfl, rfl⟩, by kernel_rfl, rfl, fun h => (by cases h), fun _ => ⟨by kernel_rfl, by kernel_rfl, by kernel_rfl⟩⟩
def ti86 : TI := ⟨2, [.int .i64 0, .string ⟨#[]⟩], .strct [(0, 3), (1, 9)], true⟩
theorem tiok86 : TIok Try.prog 86 ti86 := ⟨⟨_, Try.underlying86, _, rfl, rfl⟩, by kernel_rfl, rfl, fun h => (by cases h), fun _ => ⟨by kernel_rfl, by kernel_rfl, by kernel_rfl⟩⟩
def ti97 : TI := ⟨1, [.slice none 0 0], .slice 86, false⟩
theorem tiok97 : TIok Try.prog 97 ti97 := ⟨⟨_, Try.underlying97, rfl⟩, by kernel_rfl, rfl, fun _ => ⟨rfl, rfl⟩, fun h => (by cases h)⟩
def ti128 : TI := ⟨3, [.int .i64 0, .int .i64 0, .int .i64 0], .strct [(0, 3), (1, 3), (2, 3)], true⟩
theorem tiok128 : TIok Try.prog 128 ti128 := ⟨⟨_, Try.underlying128, _, rfl, rfl⟩, by kernel_rfl, rfl, fun h => (by cases h), fun _ => ⟨by kernel_rfl, by kernel_rfl, by kernel_rfl⟩⟩
def ti129 : TI := ⟨3, [.int .i64 0, .int .i64 0, .int .i64 0], .strct [(0, 3), (1, 3), (2, 3)], true⟩
theorem tiok129 : TIok Try.prog 129 ti129 := ⟨⟨_, Try.underlying129, _, rfl, rfl⟩, by kernel_rfl, rfl, fun h => (by cases h), fun _ => ⟨by kernel_rfl, by kernel_rfl, by kernel_rfl⟩⟩
def ti132 : TI := ⟨1, [.slice none 0 0], .slice 136, false⟩
theorem tiok132 : TIok Try.prog 132 ti132 := ⟨⟨_, Try.underlying132, rfl⟩, by kernel_rfl, rfl, fun _ => ⟨rfl, rfl⟩, fun h => (by cases h)⟩
def ti135 : TI := ⟨3, [.int .u8 0, .int .i64 0, .int .i64 0], .strct [(0, 5), (1, 3), (2, 3)], true⟩
theorem tiok135 : TIok Try.prog 135 ti135 := ⟨⟨_, Try.underlying135, _, rfl, rfl⟩, by kernel_rfl, rfl, fun h => (by cases h), fun _ => ⟨by kernel_rfl, by kernel_rfl, by kernel_rfl⟩⟩
def ti136 : TI := ⟨3, [.int .u8 0, .int .i64 0, .int .i64 0], .strct [(0, 5), (1, 3), (2, 3)], true⟩
theorem tiok136 : TIok Try.prog 136 ti136 := ⟨⟨_, Try.underlying136, _, rfl, rfl⟩, by kernel_rfl, rfl, fun h => (by cases h), fun _ => ⟨by kernel_rfl, by kernel_rfl, by kernel_rfl⟩⟩
def ti138 : TI := ⟨2, [.pointer none, .slice none 0 0], .strct [(0, 137), (1, 61)], false⟩
theorem tiok138 : TIok Try.prog 138 ti138 := ⟨⟨_, Try.underlying138, _, rfl, rfl⟩, by kernel_rfl, rfl, fun h => (by cases h), fun h => (by cases h)⟩
def ti139 : TI := ⟨2, [.pointer none, .slice none 0 0], .strct [(0, 137), (1, 61)], false⟩
theorem tiok139 : TIok Try.prog 139 ti139 := ⟨⟨_, Try.underlying139, _, rfl, rfl⟩, by kernel_rfl, rfl, fun h => (by cases h), fun h => (by cases h)⟩
def ti148 : TI := ⟨1, [.slice none 0 0], .slice 4, false⟩
theorem tiok148 : TIok Try.prog 148 ti148 := ⟨⟨_, Try.underlying148, rfl⟩, by kernel_rfl, rfl, fun _ => ⟨rfl, rfl⟩, fun h => (by cases h)⟩
def ti186 : TI := ⟨4, [.int .u8 0, .int .i64 0, .int .i64 0, .bool false], .strct [(0, 136), (3, 4)], true⟩
theorem tiok186 : TIok Try.prog 186 ti186 := ⟨⟨_, Try.underlying186, _, rfl, rfl⟩, by kernel_rfl, rfl, fun h => (by cases h), fun _ => ⟨by kernel_rfl, by kernel_rfl, by kernel_rfl⟩⟩
def ti187 : TI := ⟨4, [.int .u8 0, .int .i64 0, .int .i64 0, .bool false], .strct [(0, 136), (3, 4)], true⟩
theorem tiok187 : TIok Try.prog 187 ti187 := ⟨⟨_, Try.underlying187, _, rfl, rfl⟩, by kernel_rfl, rfl, fun h => (by cases h), fun _ => ⟨by kernel_rfl, by kernel_rfl, by kernel_rfl⟩⟩
def ti195 : TI := ⟨3, [.int .i64 0, .string ⟨#[]⟩, .bool false], .strct [(0, 3), (1, 9), (2, 4)], true⟩
theorem tiok195 : TIok Try.prog 195 ti195 := ⟨⟨_, Try.underlying195, _, rfl, rfl⟩, by kernel_rfl, rfl, fun h => (by cases h), fun _ => ⟨by kernel_rfl, by kernel_rfl, by kernel_rfl⟩⟩
def ti196 : TI := ⟨3, [.int .i64 0, .string ⟨#[]⟩, .bool false], .strct [(0, 3), (1, 9), (2, 4)], true⟩
theorem tiok196 : TIok Try.prog 196 ti196 := ⟨⟨_, Try.underlying196, _, rfl, rfl⟩, by kernel_rfl, rfl, fun h => (by cases h), fun _ => ⟨by kernel_rfl, by kernel_rfl, by kernel_rfl⟩⟩
def ti216 : TI := ⟨4, [.pointer none, .pointer none, .pointer none, .string ⟨#[]⟩], .strct [(0, 17), (1, 17), (2, 17), (3, 9)], false⟩
theorem tiok216 : TIok Try.prog 216 ti216 := ⟨⟨_, Try.underlying216, _, rfl, rfl⟩, by kernel_rfl, rfl, fun h => (by cases h), fun h => (by cases h)⟩
def ti217 : TI := ⟨4, [.pointer none, .pointer none, .pointer none, .string ⟨#[]⟩], .strct [(0, 17), (1, 17), (2, 17), (3, 9)], false⟩
theorem tiok217 : TIok Try.prog 217 ti217 := ⟨⟨_, Try.underlying217, _, rfl, rfl⟩, by kernel_rfl, rfl, fun h => (by cases h), fun h => (by cases h)⟩
def ti226 : TI := ⟨11, [.int .u64 0, .int .u64 0, .int .u32 0, .int .u8 0, .int .u8 0, .int .u8 0, .int .u8 0, .nilFunc, .pointer none, .int .i32 0, .int .i32 0], .strct [(0, 12), (1, 12), (2, 213), (3, 221), (4, 5), (5, 5), (6, 222), (7, 223), (8, 190), (9, 224), (10, 225)], false⟩
theorem tiok226 : TIok Try.prog 226 ti226 := ⟨⟨_, Try.underlying226, _, rfl, rfl⟩, by kernel_rfl, rfl, fun h => (by cases h), fun h => (by cases h)⟩
def ti227 : TI := ⟨11, [.int .u64 0, .int .u64 0, .int .u32 0, .int .u8 0, .int .u8 0, .int .u8 0, .int .u8 0, .nilFunc, .pointer none, .int .i32 0, .int .i32 0], .strct [(0, 12), (1, 12), (2, 213), (3, 221), (4, 5), (5, 5), (6, 222), (7, 223), (8, 190), (9, 224), (10, 225)], false⟩
theorem tiok227 : TIok Try.prog 227 ti227 := ⟨⟨_, Try.underlying227, _, rfl, rfl⟩, by kernel_rfl, rfl, fun h => (by cases h), fun h => (by cases h)⟩
def ti1 : TI := ⟨1, [.nilFunc], .other, false⟩
theorem tiok1 : TIok Try.prog 1 ti1 := ⟨⟨_, Try.underlying1, fun _ h => (by cases h), fun _ _ h => (by cases h)⟩, by kernel_rfl, rfl, fun _ => ⟨rfl, rfl⟩, fun h => (by cases h)⟩
def ti12 : TI := ⟨1, [.int .u64 0], .int .u64, false⟩
theorem tiok12 : TIok Try.prog 12 ti12 := ⟨⟨_, Try.underlying12, rfl⟩, by kernel_rfl, rfl, fun _ => ⟨rfl, rfl⟩, fun h => (by cases h)⟩
def ti15 : TI := ⟨1, [.pointer none], .other, false⟩
theorem tiok15 : TIok Try.prog 15 ti15 := ⟨⟨_, Try.underlying15, fun _ h => (by cases h), fun _ _ h => (by cases h)⟩, by kernel_rfl, rfl, fun _ => ⟨rfl, rfl⟩, fun h => (by cases h)⟩
def ti16 : TI := ⟨1, [.pointer none], .other, false⟩
theorem tiok16 : TIok Try.prog 16 ti16 := ⟨⟨_, Try.underlying16, fun _ h => (by cases h), fun _ _ h => (by cases h)⟩, by kernel_rfl, rfl, fun _ => ⟨rfl, rfl⟩, fun h => (by cases h)⟩
def ti17 : TI := ⟨1, [.pointer none], .other, false⟩
theorem tiok17 : TIok Try.prog 17 ti17 := ⟨⟨_, Try.underlying17, fun _ h => (by cases h), fun _ _ h => (by cases h)⟩, by kernel_rfl, rfl, fun _ => ⟨rfl, rfl⟩, fun h => (by cases h)⟩
def ti20 : TI := ⟨1, [.nilIface], .other, false⟩
theorem tiok20 : TIok Try.prog 20 ti20 := ⟨⟨_, Try.underlying20, fun _ h => (by cases h), fun _ _ h => (by cases h)⟩, by kernel_rfl, rfl, fun _ => ⟨rfl, rfl⟩, fun h => (by cases h)⟩
def ti21 : TI := ⟨1, [.int .i32 0], .int .i32, false⟩
theorem tiok21 : TIok Try.prog 21 ti21 := ⟨⟨_, Try.underlying21, rfl⟩, by kernel_rfl, rfl, fun _ => ⟨rfl, rfl⟩, fun h => (by cases h)⟩
def ti24 : TI := ⟨1, [.nilFunc], .other, false⟩
theorem tiok24 : TIok Try.prog 24 ti24 := ⟨⟨_, Try.underlying24, fun _ h => (by cases h), fun _ _ h => (by cases h)⟩, by kernel_rfl, rfl, fun _ => ⟨rfl, rfl⟩, fun h => (by cases h)⟩
def ti25 : TI := ⟨1, [.nilFunc], .other, false⟩
theorem tiok25 : TIok Try.prog 25 ti25 := ⟨⟨_, Try.underlying25, fun _ h => (by cases h), fun _ _ h => (by cases h)⟩, by kernel_rfl, rfl, fun _ => ⟨rfl, rfl⟩, fun h => (by cases h)⟩
def ti26 : TI := ⟨1, [.nilFunc], .other, false⟩
theorem tiok26 : TIok Try.prog 26 ti26 := ⟨⟨_, Try.underlying26, fun _ h => (by cases h), fun _ _ h => (by cases h)⟩, by kernel_rfl, rfl, fun _ => ⟨rfl, rfl⟩, fun h => (by cases h)⟩
def ti29 : TI := ⟨1, [.nilFunc], .other, false⟩
theorem tiok29 : TIok Try.prog 29 ti29 := ⟨⟨_, Try.underlying29, fun _ h => (by cases h), fun _ _ h => (by cases h)⟩, by kernel_rfl, rfl, fun _ => ⟨rfl, rfl⟩, fun h => (by cases h)⟩
def ti32 : TI := ⟨1, [.nilFunc], .other, false⟩
theorem tiok32 : TIok Try.prog 32 ti32 := ⟨⟨_, Try.underlying32, fun _ h => (by cases h), fun _ _ h => (by cases h)⟩, by kernel_rfl, rfl, fun _ => ⟨rfl, rfl⟩, fun h => (by cases h)⟩
def ti39 : TI := ⟨1, [.nilFunc], .other, false⟩
theorem tiok39 : TIok Try.prog 39 ti39 := ⟨⟨_, Try.underlying39, fun _ h => (by cases h), fun _ _ h => (by cases h)⟩, by kernel_rfl, rfl, fun _ => ⟨rfl, rfl⟩, fun h => (by cases h)⟩
def ti41 : TI := ⟨1, [.nilFunc], .other, false⟩
theorem tiok41 : TIok Try.prog 41 ti41 := ⟨⟨_, Try.underlying41, fun _ h => (by cases h), fun _ _ h => (by cases h)⟩, by kernel_rfl, rfl, fun _ => ⟨rfl, rfl⟩, fun h => (by cases h)⟩
def ti42 : TI := ⟨1, [.nilFunc], .other, false⟩
theorem tiok42 : TIok Try.prog 42 ti42 := ⟨⟨_, Try.underlying42, fun _ h => (by cases h), fun _ _ h => (by cases h)⟩, by kernel_rfl, rfl, fun _ => ⟨rfl, rfl⟩, fun h => (by cases h)⟩
def ti43 : TI := ⟨1, [.nilFunc], .other, false⟩
theorem tiok43 : TIok Try.prog 43 ti43 := ⟨⟨_, Try.underlying43, fun _ h => (by cases h), fun _ _ h => (by cases h)⟩, by kernel_rfl, rfl, fun _ => ⟨rfl, rfl⟩, fun h => (by cases h)⟩
def ti44 : TI := ⟨1, [.nilFunc], .other, false⟩
theorem tiok44 : TIok Try.prog 44 ti44 := ⟨⟨_, Try.underlying44, fun _ h => (by cases h), fun _ _ h => (by cases h)⟩, by kernel_rfl, rfl, fun _ => ⟨rfl, rfl⟩, fun h => (by cases h)⟩
def ti48 : TI := ⟨1, [.nilFunc], .other, false⟩
theorem tiok48 : TIok Try.prog 48 ti48 := ⟨⟨_, Try.underlying48, fun _ h => (by cases h), fun _ _ h => (by cases h)⟩, by kernel_rfl, rfl, fun _ => ⟨rfl, rfl⟩, fun h => (by cases h)⟩
def ti50 : TI := ⟨1, [.nilFunc], .other, false⟩
theorem tiok50 : TIok Try.prog 50 ti50 := ⟨⟨_, Try.underlying50, fun _ h => (by cases h), fun _ _ h => (by cases h)⟩, by kernel_rfl, rfl, fun _ => ⟨rfl, rfl⟩, fun h => (by cases h)⟩
def ti52 : TI := ⟨1, [.nilFunc], .other, false⟩
theorem tiok52 : TIok Try.prog 52 ti52 := ⟨⟨_, Try.underlying52, fun _ h => (by cases h), fun _ _ h => (by cases h)⟩, by kernel_rfl, rfl, fun _ => ⟨rfl, rfl⟩, fun h => (by cases h)⟩
def ti53 : TI := ⟨1, [.nilFunc], .other, false⟩
theorem tiok53 : TIok Try.prog 53 ti53 := ⟨⟨_, Try.underlying53, fun _ h => (by cases h), fun _ _ h => (by cases h)⟩, by kernel_rfl, rfl, fun _ => ⟨rfl, rfl⟩, fun h => (by cases h)⟩
def ti54 : TI := ⟨1, [.nilFunc], .other, false⟩
theorem tiok54 : TIok Try.prog 54 ti54 := ⟨⟨_, Try.underlying54, fun _ h => (by cases h), fun _ _ h => (by cases h)⟩, by kernel_rfl, rfl, fun _ => ⟨rfl, rfl⟩, fun h => (by cases h)⟩
def ti56 : TI := ⟨1, [.nilFunc], .other, false⟩
theorem tiok56 : TIok Try.prog 56 ti56 := ⟨⟨_, Try.underlying56, fun _ h => (by cases h), fun _ _ h => (by cases h)⟩, by kernel_rfl, rfl, fun _ => ⟨rfl, rfl⟩, fun h => (by cases h)⟩
def ti57 : TI := ⟨1, [.nilFunc], .other, false⟩
theorem tiok57 : TIok Try.prog 57 ti57 := ⟨⟨_, Try.underlying57, fun _ h => (by cases h), fun _ _ h => (by cases h)⟩, by kernel_rfl, rfl, fun _ => ⟨rfl, rfl⟩, fun h => (by cases h)⟩
def ti58 : TI := ⟨1, [.nilFunc], .other, false⟩
theorem tiok58 : TIok Try.prog 58 ti58 := ⟨⟨_, Try.underlying58, fun _ h => (by cases h), fun _ _ h => (by cases h)⟩, by kernel_rfl, rfl, fun _ => ⟨rfl, rfl⟩, fun h => (by cases h)⟩
def ti59 : TI := ⟨1, [.nilFunc], .other, false⟩
theorem tiok59 : TIok Try.prog 59 ti59 := ⟨⟨_, Try.underlying59, fun _ h => (by cases h), fun _ _ h => (by cases h)⟩, by kernel_rfl, rfl, fun _ => ⟨rfl, rfl⟩, fun h => (by cases h)⟩
def ti60 : TI := ⟨1, [.nilFunc], .other, false⟩
theorem tiok60 : TIok Try.prog 60 ti60 := ⟨⟨_, Try.underlying60, fun _ h => (by cases h), fun _ _ h => (by cases h)⟩, by kernel_rfl, rfl, fun _ => ⟨rfl, rfl⟩, fun h => (by cases h)⟩
def ti63 : TI := ⟨1, [.nilFunc], .other, false⟩
theorem tiok63 : TIok Try.prog 63 ti63 := ⟨⟨_, Try.underlying63, fun _ h => (by cases h), fun _ _ h => (by cases h)⟩, by kernel_rfl, rfl, fun _ => ⟨rfl, rfl⟩, fun h => (by cases h)⟩
def ti66 : TI := ⟨1, [.nilFunc], .other, false⟩
theorem tiok66 : TIok Try.prog 66 ti66 := ⟨⟨_, Try.underlying66, fun _ h => (by cases h), fun _ _ h => (by cases h)⟩, by kernel_rfl, rfl, fun _ => ⟨rfl, rfl⟩, fun h => (by cases h)⟩
def ti67 : TI := ⟨1, [.nilFunc], .other, false⟩
theorem tiok67 : TIok Try.prog 67 ti67 := ⟨⟨_, Try.underlying67, fun _ h => (by cases h), fun _ _ h => (by cases h)⟩, by kernel_rfl, rfl, fun _ => ⟨rfl, rfl⟩, fun h => (by cases h)⟩
def ti68 : TI := ⟨1, [.int .u64 0], .int .u64, false⟩
theorem tiok68 : TIok Try.prog 68 ti68 := ⟨⟨_, Try.underlying68, rfl⟩, by kernel_rfl, rfl, fun _ => ⟨rfl, rfl⟩, fun h => (by cases h)⟩
def ti70 : TI := ⟨1, [.nilFunc], .other, false⟩
theorem tiok70 : TIok Try.prog 70 ti70 := ⟨⟨_, Try.underlying70, fun _ h => (by cases h), fun _ _ h => (by cases h)⟩, by kernel_rfl, rfl, fun _ => ⟨rfl, rfl⟩, fun h => (by cases h)⟩
def ti72 : TI := ⟨1, [.nilFunc], .other, false⟩
theorem tiok72 : TIok Try.prog 72 ti72 := ⟨⟨_, Try.underlying72, fun _ h => (by cases h), fun _ _ h => (by cases h)⟩, by kernel_rfl, rfl, fun _ => ⟨rfl, rfl⟩, fun h => (by cases h)⟩
def ti74 : TI := ⟨1, [.nilFunc], .other, false⟩
theorem tiok74 : TIok Try.prog 74 ti74 := ⟨⟨_, Try.underlying74, fun _ h => (by cases h), fun _ _ h => (by cases h)⟩, by kernel_rfl, rfl, fun _ => ⟨rfl, rfl⟩, fun h => (by cases h)⟩
def ti76 : TI := ⟨1, [.nilFunc], .other, false⟩
theorem tiok76 : TIok Try.prog 76 ti76 := ⟨⟨_, Try.underlying76, fun _ h => (by cases h), fun _ _ h => (by cases h)⟩, by kernel_rfl, rfl, fun _ => ⟨rfl, rfl⟩, fun h => (by cases h)⟩
def ti79 : TI := ⟨1, [.nilFunc], .other, false⟩
theorem tiok79 : TIok Try.prog 79 ti79 := ⟨⟨_, Try.underlying79, fun _ h => (by cases h), fun _ _ h => (by cases h)⟩, by kernel_rfl, rfl, fun _ => ⟨rfl, rfl⟩, fun h => (by cases h)⟩
def ti81 : TI := ⟨1, [.nilFunc], .other, false⟩
theorem tiok81 : TIok Try.prog 81 ti81 := ⟨⟨_, Try.underlying81, fun _ h => (by cases h), fun _ _ h => (by cases h)⟩, by kernel_rfl, rfl, fun _ => ⟨rfl, rfl⟩, fun h => (by cases h)⟩
def ti82 : TI := ⟨1, [.nilFunc], .other, false⟩
theorem tiok82 : TIok Try.prog 82 ti82 := ⟨⟨_, Try.underlying82, fun _ h => (by cases h), fun _ _ h => (by cases h)⟩, by kernel_rfl, rfl, fun _ => ⟨rfl, rfl⟩, fun h => (by cases h)⟩
def ti83 : TI := ⟨1, [.nilFunc], .other, false⟩
theorem tiok83 : TIok Try.prog 83 ti83 := ⟨⟨_, Try.underlying83, fun _ h => (by cases h), fun _ _ h => (by cases h)⟩, by kernel_rfl, rfl, fun _ => ⟨rfl, rfl⟩, fun h => (by cases h)⟩
def ti84 : TI := ⟨1, [.nilFunc], .other, false⟩
theorem tiok84 : TIok Try.prog 84 ti84 := ⟨⟨_, Try.underlying84, fun _ h => (by cases h), fun _ _ h => (by cases h)⟩, by kernel_rfl, rfl, fun _ => ⟨rfl, rfl⟩, fun h => (by cases h)⟩
def ti88 : TI := ⟨1, [.nilFunc], .other, false⟩
theorem tiok88 : TIok Try.prog 88 ti88 := ⟨⟨_, Try.underlying88, fun _ h => (by cases h), fun _ _ h => (by cases h)⟩, by kernel_rfl, rfl, fun _ => ⟨rfl, rfl⟩, fun h => (by cases h)⟩
def ti90 : TI := ⟨1, [.nilFunc], .other, false⟩
theorem tiok90 : TIok Try.prog 90 ti90 := ⟨⟨_, Try.underlying90, fun _ h => (by cases h), fun _ _ h => (by cases h)⟩, by kernel_rfl, rfl, fun _ => ⟨rfl, rfl⟩, fun h => (by cases h)⟩
def ti91 : TI := ⟨1, [.nilFunc], .other, false⟩
theorem tiok91 : TIok Try.prog 91 ti91 := ⟨⟨_, Try.underlying91, fun _ h => (by cases h), fun _ _ h => (by cases h)⟩, by kernel_rfl, rfl, fun _ => ⟨rfl, rfl⟩, fun h => (by cases h)⟩
def ti92 : TI := ⟨1, [.nilFunc], .other, false⟩
theorem tiok92 : TIok Try.prog 92 ti92 := ⟨⟨_, Try.underlying92, fun _ h => (by cases h), fun _ _ h => (by cases h)⟩, by kernel_rfl, rfl, fun _ => ⟨rfl, rfl⟩, fun h => (by cases h)⟩
def ti93 : TI := ⟨1, [.nilFunc], .other, false⟩
theorem tiok93 : TIok Try.prog 93 ti93 := ⟨⟨_, Try.underlying93, fun _ h => (by cases h), fun _ _ h => (by cases h)⟩, by kernel_rfl, rfl, fun _ => ⟨rfl, rfl⟩, fun h => (by cases h)⟩
def ti94 : TI := ⟨1, [.nilFunc], .other, false⟩
theorem tiok94 : TIok Try.prog 94 ti94 := ⟨⟨_, Try.underlying94, fun _ h => (by cases h), fun _ _ h => (by cases h)⟩, by kernel_rfl, rfl, fun _ => ⟨rfl, rfl⟩, fun h => (by cases h)⟩
def ti95 : TI := ⟨1, [.nilFunc], .other, false⟩
theorem tiok95 : TIok Try.prog 95 ti95 := ⟨⟨_, Try.underlying95, fun _ h => (by cases h), fun _ _ h => (by cases h)⟩, by kernel_rfl, rfl, fun _ => ⟨rfl, rfl⟩, fun h => (by cases h)⟩
def ti96 : TI := ⟨1, [.nilFunc], .other, false⟩
theorem tiok96 : TIok Try.prog 96 ti96 := ⟨⟨_, Try.underlying96, fun _ h => (by cases h), fun _ _ h => (by cases h)⟩, by kernel_rfl, rfl, fun _ => ⟨rfl, rfl⟩, fun h => (by cases h)⟩
def ti99 : TI := ⟨1, [.nilFunc], .other, false⟩
theorem tiok99 : TIok Try.prog 99 ti99 := ⟨⟨_, Try.underlying99, fun _ h => (by cases h), fun _ _ h => (by cases h)⟩, by kernel_rfl, rfl, fun _ => ⟨rfl, rfl⟩, fun h => (by cases h)⟩
def ti101 : TI := ⟨1, [.nilFunc], .other, false⟩
theorem tiok101 : TIok Try.prog 101 ti101 := ⟨⟨_, Try.underlying101, fun _ h => (by cases h), fun _ _ h => (by cases h)⟩, by kernel_rfl, rfl, fun _ => ⟨rfl, rfl⟩, fun h => (by cases h)⟩
def ti102 : TI := ⟨1, [.nilFunc], .other, false⟩
theorem tiok102 : TIok Try.prog 102 ti102 := ⟨⟨_, Try.underlying102, fun _ h => (by cases h), fun _ _ h => (by cases h)⟩, by kernel_rfl, rfl, fun _ => ⟨rfl, rfl⟩, fun h => (by cases h)⟩
def ti103 : TI := ⟨1, [.nilFunc], .other, false⟩
theorem tiok103 : TIok Try.prog 103 ti103 := ⟨⟨_, Try.underlying103, fun _ h => (by cases h), fun _ _ h => (by cases h)⟩, by kernel_rfl, rfl, fun _ => ⟨rfl, rfl⟩, fun h => (by cases h)⟩
def ti104 : TI := ⟨1, [.nilFunc], .other, false⟩
theorem tiok104 : TIok Try.prog 104 ti104 := ⟨⟨_, Try.underlying104, fun _ h => (by cases h), fun _ _ h => (by cases h)⟩, by kernel_rfl, rfl, fun _ => ⟨rfl, rfl⟩, fun h => (by cases h)⟩
def ti105 : TI := ⟨1, [.nilFunc], .other, false⟩
theorem tiok105 : TIok Try.prog 105 ti105 := ⟨⟨_, Try.underlying105, fun _ h => (by cases h), fun _ _ h => (by cases h)⟩, by kernel_rfl, rfl, fun _ => ⟨rfl, rfl⟩, fun h => (by cases h)⟩
def ti106 : TI := ⟨1, [.nilFunc], .other, false⟩
theorem tiok106 : TIok Try.prog 106 ti106 := ⟨⟨_, Try.underlying106, fun _ h => (by cases h), fun _ _ h => (by cases h)⟩, by kernel_rfl, rfl, fun _ => ⟨rfl, rfl⟩, fun h => (by cases h)⟩
def ti107 : TI := ⟨1, [.nilFunc], .other, false⟩
theorem tiok107 : TIok Try.prog 107 ti107 := ⟨⟨_, Try.underlying107, fun _ h => (by cases h), fun _ _ h => (by cases h)⟩, by kernel_rfl, rfl, fun _ => ⟨rfl, rfl⟩, fun h => (by cases h)⟩
def ti108 : TI := ⟨1, [.nilFunc], .other, false⟩
theorem tiok108 : TIok Try.prog 108 ti108 := ⟨⟨_, Try.underlying108, fun _ h => (by cases h), fun _ _ h => (by cases h)⟩, by kernel_rfl, rfl, fun _ => ⟨rfl, rfl⟩, fun h => (by cases h)⟩
def ti109 : TI := ⟨1, [.nilFunc], .other, false⟩
theorem tiok109 : TIok Try.prog 109 ti109 := ⟨⟨_, Try.underlying109, fun _ h => (by cases h), fun _ _ h => (by cases h)⟩, by kernel_rfl, rfl, fun _ => ⟨rfl, rfl⟩, fun h => (by cases h)⟩
def ti110 : TI := ⟨1, [.nilFunc], .other, false⟩
theorem tiok110 : TIok Try.prog 110 ti110 := ⟨⟨_, Try.underlying110, fun _ h => (by cases h), fun _ _ h => (by cases h)⟩, by kernel_rfl, rfl, fun _ => ⟨rfl, rfl⟩, fun h => (by cases h)⟩
def ti112 : TI := ⟨1, [.nilFunc], .other, false⟩
theorem tiok112 : TIok Try.prog 112 ti112 := ⟨⟨_, Try.underlying112, fun _ h => (by cases h), fun _ _ h => (by cases h)⟩, by kernel_rfl, rfl, fun _ => ⟨rfl, rfl⟩, fun h => (by cases h)⟩
def ti113 : TI := ⟨1, [.pointer none], .other, false⟩
theorem tiok113 : TIok Try.prog 113 ti113 := ⟨⟨_, Try.underlying113, fun _ h => (by cases h), fun _ _ h => (by cases h)⟩, by kernel_rfl, rfl, fun _ => ⟨rfl, rfl⟩, fun h => (by cases h)⟩
def ti114 : TI := ⟨1, [.nilFunc], .other, false⟩
theorem tiok114 : TIok Try.prog 114 ti114 := ⟨⟨_, Try.underlying114, fun _ h => (by cases h), fun _ _ h => (by cases h)⟩, by kernel_rfl, rfl, fun _ => ⟨rfl, rfl⟩, fun h => (by cases h)⟩
def ti115 : TI := ⟨1, [.nilFunc], .other, false⟩
theorem tiok115 : TIok Try.prog 115 ti115 := ⟨⟨_, Try.underlying115, fun _ h => (by cases h), fun _ _ h => (by cases h)⟩, by kernel_rfl, rfl, fun _ => ⟨rfl, rfl⟩, fun h => (by cases h)⟩
def ti116 : TI := ⟨1, [.pointer none], .other, false⟩
theorem tiok116 : TIok Try.prog 116 ti116 := ⟨⟨_, Try.underlying116, fun _ h => (by cases h), fun _ _ h => (by cases h)⟩, by kernel_rfl, rfl, fun _ => ⟨rfl, rfl⟩, fun h => (by cases h)⟩
def ti117 : TI := ⟨1, [.nilFunc], .other, false⟩
theorem tiok117 : TIok Try.prog 117 ti117 := ⟨⟨_, Try.underlying117, fun _ h => (by cases h), fun _ _ h => (by cases h)⟩, by kernel_rfl, rfl, fun _ => ⟨rfl, rfl⟩, fun h => (by cases h)⟩
def ti118 : TI := ⟨1, [.nilFunc], .other, false⟩
theorem tiok118 : TIok Try.prog 118 ti118 := ⟨⟨_, Try.underlying118, fun _ h => (by cases h), fun _ _ h => (by cases h)⟩, by kernel_rfl, rfl, fun _ => ⟨rfl, rfl⟩, fun h => (by cases h)⟩
def ti119 : TI := ⟨1, [.nilFunc], .other, false⟩
theorem tiok119 : TIok Try.prog 119 ti119 := ⟨⟨_, Try.underlying119, fun _ h => (by cases h), fun _ _ h => (by cases h)⟩, by kernel_rfl, rfl, fun _ => ⟨rfl, rfl⟩, fun h => (by cases h)⟩
def ti121 : TI := ⟨1, [.nilFunc], .other, false⟩
theorem tiok121 : TIok Try.prog 121 ti121 := ⟨⟨_, Try.underlying121, fun _ h => (by cases h), fun _ _ h => (by cases h)⟩, by kernel_rfl, rfl, fun _ => ⟨rfl, rfl⟩, fun h => (by cases h)⟩
def ti122 : TI := ⟨1, [.nilFunc], .other, false⟩
theorem tiok122 : TIok Try.prog 122 ti122 := ⟨⟨_, Try.underlying122, fun _ h => (by cases h), fun _ _ h => (by cases h)⟩, by kernel_rfl, rfl, fun _ => ⟨rfl, rfl⟩, fun h => (by cases h)⟩
def ti123 : TI := ⟨1, [.nilFunc], .other, false⟩
theorem tiok123 : TIok Try.prog 123 ti123 := ⟨⟨_, Try.underlying123, fun _ h => (by cases h), fun _ _ h => (by cases h)⟩, by kernel_rfl, rfl, fun _ => ⟨rfl, rfl⟩, fun h => (by cases h)⟩
def ti124 : TI := ⟨1, [.nilFunc], .other, false⟩
theorem tiok124 : TIok Try.prog 124 ti124 := ⟨⟨_, Try.underlying124, fun _ h => (by cases h), fun _ _ h => (by cases h)⟩, by kernel_rfl, rfl, fun _ => ⟨rfl, rfl⟩, fun h => (by cases h)⟩
def ti125 : TI := ⟨1, [.nilFunc], .other, false⟩
theorem tiok125 : TIok Try.prog 125 ti125 := ⟨⟨_, Try.underlying125, fun _ h => (by cases h), fun _ _ h => (by cases h)⟩, by kernel_rfl, rfl, fun _ => ⟨rfl, rfl⟩, fun h => (by cases h)⟩
def ti126 : TI := ⟨1, [.nilFunc], .other, false⟩
theorem tiok126 : TIok Try.prog 126 ti126 := ⟨⟨_, Try.underlying126, fun _ h => (by cases h), fun _ _ h => (by cases h)⟩, by kernel_rfl, rfl, fun _ => ⟨rfl, rfl⟩, fun h => (by cases h)⟩
def ti127 : TI := ⟨1, [.nilFunc], .other, false⟩
theorem tiok127 : TIok Try.prog 127 ti127 := ⟨⟨_, Try.underlying127, fun _ h => (by cases h), fun _ _ h => (by cases h)⟩, by kernel_rfl, rfl, fun _ => ⟨rfl, rfl⟩, fun h => (by cases h)⟩
def ti131 : TI := ⟨1, [.nilFunc], .other, false⟩
theorem tiok131 : TIok Try.prog 131 ti131 := ⟨⟨_, Try.underlying131, fun _ h => (by cases h), fun _ _ h => (by cases h)⟩, by kernel_rfl, rfl, fun _ => ⟨rfl, rfl⟩, fun h => (by cases h)⟩
def ti134 : TI := ⟨1, [.nilFunc], .other, false⟩
theorem tiok134 : TIok Try.prog 134 ti134 := ⟨⟨_, Try.underlying134, fun _ h => (by cases h), fun _ _ h => (by cases h)⟩, by kernel_rfl, rfl, fun _ => ⟨rfl, rfl⟩, fun h => (by cases h)⟩
def ti137 : TI := ⟨1, [.pointer none], .other, false⟩
theorem tiok137 : TIok Try.prog 137 ti137 := ⟨⟨_, Try.underlying137, fun _ h => (by cases h), fun _ _ h => (by cases h)⟩, by kernel_rfl, rfl, fun _ => ⟨rfl, rfl⟩, fun h => (by cases h)⟩
def ti140 : TI := ⟨1, [.nilIface], .other, false⟩
theorem tiok140 : TIok Try.prog 140 ti140 := ⟨⟨_, Try.underlying140, fun _ h => (by cases h), fun _ _ h => (by cases h)⟩, by kernel_rfl, rfl, fun _ => ⟨rfl, rfl⟩, fun h => (by cases h)⟩
def ti141 : TI := ⟨1, [.nilIface], .other, false⟩
theorem tiok141 : TIok Try.prog 141 ti141 := ⟨⟨_, Try.underlying141, fun _ h => (by cases h), fun _ _ h => (by cases h)⟩, by kernel_rfl, rfl, fun _ => ⟨rfl, rfl⟩, fun h => (by cases h)⟩
def ti142 : TI := ⟨1, [.nilFunc], .other, false⟩
theorem tiok142 : TIok Try.prog 142 ti142 := ⟨⟨_, Try.underlying142, fun _ h => (by cases h), fun _ _ h => (by cases h)⟩, by kernel_rfl, rfl, fun _ => ⟨rfl, rfl⟩, fun h => (by cases h)⟩
def ti143 : TI := ⟨1, [.nilFunc], .other, false⟩
theorem tiok143 : TIok Try.prog 143 ti143 := ⟨⟨_, Try.underlying143, fun _ h => (by cases h), fun _ _ h => (by cases h)⟩, by kernel_rfl, rfl, fun _ => ⟨rfl, rfl⟩, fun h => (by cases h)⟩
def ti145 : TI := ⟨1, [.nilFunc], .other, false⟩
theorem tiok145 : TIok Try.prog 145 ti145 := ⟨⟨_, Try.underlying145, fun _ h => (by cases h), fun _ _ h => (by cases h)⟩, by kernel_rfl, rfl, fun _ => ⟨rfl, rfl⟩, fun h => (by cases h)⟩
def ti146 : TI := ⟨1, [.nilFunc], .other, false⟩
theorem tiok146 : TIok Try.prog 146 ti146 := ⟨⟨_, Try.underlying146, fun _ h => (by cases h), fun _ _ h => (by cases h)⟩, by kernel_rfl, rfl, fun _ => ⟨rfl, rfl⟩, fun h => (by cases h)⟩
def ti147 : TI := ⟨1, [.nilFunc], .other, false⟩
theorem tiok147 : TIok Try.prog 147 ti147 := ⟨⟨_, Try.underlying147, fun _ h => (by cases h), fun _ _ h => (by cases h)⟩, by kernel_rfl, rfl, fun _ => ⟨rfl, rfl⟩, fun h => (by cases h)⟩
def ti149 : TI := ⟨1, [.nilFunc], .other, false⟩
theorem tiok149 : TIok Try.prog 149 ti149 := ⟨⟨_, Try.underlying149, fun _ h => (by cases h), fun _ _ h => (by cases h)⟩, by kernel_rfl, rfl, fun _ => ⟨rfl, rfl⟩, fun h => (by cases h)⟩
def ti150 : TI := ⟨1, [.nilFunc], .other, false⟩
theorem tiok150 : TIok Try.prog 150 ti150 := ⟨⟨_, Try.underlying150, fun _ h => (by cases h), fun _ _ h => (by cases h)⟩, by kernel_rfl, rfl, fun _ => ⟨rfl, rfl⟩, fun h => (by cases h)⟩
def ti151 : TI := ⟨1, [.nilFunc], .other, false⟩
theorem tiok151 : TIok Try.prog 151 ti151 := ⟨⟨_, Try.underlying151, fun _ h => (by cases h), fun _ _ h => (by cases h)⟩, by kernel_rfl, rfl, fun _ => ⟨rfl, rfl⟩, fun h => (by cases h)⟩
def ti152 : TI := ⟨1, [.nilFunc], .other, false⟩
theorem tiok152 : TIok Try.prog 152 ti152 := ⟨⟨_, Try.underlying152, fun _ h => (by cases h), fun _ _ h => (by cases h)⟩, by kernel_rfl, rfl, fun _ => ⟨rfl, rfl⟩, fun h => (by cases h)⟩
def ti154 : TI := ⟨1, [.nilFunc], .other, false⟩
theorem tiok154 : TIok Try.prog 154 ti154 := ⟨⟨_, Try.underlying154, fun _ h => (by cases h), fun _ _ h => (by cases h)⟩, by kernel_rfl, rfl, fun _ => ⟨rfl, rfl⟩, fun h => (by cases h)⟩
def ti155 : TI := ⟨1, [.nilFunc], .other, false⟩
theorem tiok155 : TIok Try.prog 155 ti155 := ⟨⟨_, Try.underlying155, fun _ h => (by cases h), fun _ _ h => (by cases h)⟩, by kernel_rfl, rfl, fun _ => ⟨rfl, rfl⟩, fun h => (by cases h)⟩
def ti157 : TI := ⟨1, [.nilFunc], .other, false⟩
theorem tiok157 : TIok Try.prog 157 ti157 := ⟨⟨_, Try.underlying157, fun _ h => (by cases h), fun _ _ h => (by cases h)⟩, by kernel_rfl, rfl, fun _ => ⟨rfl, rfl⟩, fun h => (by cases h)⟩
def ti158 : TI := ⟨1, [.nilFunc], .other, false⟩
theorem tiok158 : TIok Try.prog 158 ti158 := ⟨⟨_, Try.underlying158, fun _ h => (by cases h), fun _ _ h => (by cases h)⟩, by kernel_rfl, rfl, fun _ => ⟨rfl, rfl⟩, fun h => (by cases h)⟩
def ti159 : TI := ⟨1, [.nilFunc], .other, false⟩
theorem tiok159 : TIok Try.prog 159 ti159 := ⟨⟨_, Try.underlying159, fun _ h => (by cases h), fun _ _ h => (by cases h)⟩, by kernel_rfl, rfl, fun _ => ⟨rfl, rfl⟩, fun h => (by cases h)⟩
def ti160 : TI := ⟨1, [.nilFunc], .other, false⟩
theorem tiok160 : TIok Try.prog 160 ti160 := ⟨⟨_, Try.underlying160, fun _ h => (by cases h), fun _ _ h => (by cases h)⟩, by kernel_rfl, rfl, fun _ => ⟨rfl, rfl⟩, fun h => (by cases h)⟩
def ti161 : TI := ⟨1, [.nilFunc], .other, false⟩
theorem tiok161 : TIok Try.prog 161 ti161 := ⟨⟨_, Try.underlying161, fun _ h => (by cases h), fun _ _ h => (by cases h)⟩, by kernel_rfl, rfl, fun _ => ⟨rfl, rfl⟩, fun h => (by cases h)⟩
def ti162 : TI := ⟨1, [.nilFunc], .other, false⟩
theorem tiok162 : TIok Try.prog 162 ti162 := ⟨⟨_, Try.underlying162, fun _ h => (by cases h), fun _ _ h => (by cases h)⟩, by kernel_rfl, rfl, fun _ => ⟨rfl, rfl⟩, fun h => (by cases h)⟩
def ti163 : TI := ⟨1, [.nilFunc], .other, false⟩
theorem tiok163 : TIok Try.prog 163 ti163 := ⟨⟨_, Try.underlying163, fun _ h => (by cases h), fun _ _ h => (by cases h)⟩, by kernel_rfl, rfl, fun _ => ⟨rfl, rfl⟩, fun h => (by cases h)⟩
def ti164 : TI := ⟨1, [.nilFunc], .other, false⟩
theorem tiok164 : TIok Try.prog 164 ti164 := ⟨⟨_, Try.underlying164, fun _ h => (by cases h), fun _ _ h => (by cases h)⟩, by kernel_rfl, rfl, fun _ => ⟨rfl, rfl⟩, fun h => (by cases h)⟩
def ti165 : TI := ⟨1, [.int .u64 0], .int .u64, false⟩
theorem tiok165 : TIok Try.prog 165 ti165 := ⟨⟨_, Try.underlying165, rfl⟩, by kernel_rfl, rfl, fun _ => ⟨rfl, rfl⟩, fun h => (by cases h)⟩
def ti166 : TI := ⟨1, [.nilFunc], .other, false⟩
theorem tiok166 : TIok Try.prog 166 ti166 := ⟨⟨_, Try.underlying166, fun _ h => (by cases h), fun _ _ h => (by cases h)⟩, by kernel_rfl, rfl, fun _ => ⟨rfl, rfl⟩, fun h => (by cases h)⟩
def ti168 : TI := ⟨1, [.nilFunc], .other, false⟩
theorem tiok168 : TIok Try.prog 168 ti168 := ⟨⟨_, Try.underlying168, fun _ h => (by cases h), fun _ _ h => (by cases h)⟩, by kernel_rfl, rfl, fun _ => ⟨rfl, rfl⟩, fun h => (by cases h)⟩
def ti169 : TI := ⟨1, [.nilFunc], .other, false⟩
theorem tiok169 : TIok Try.prog 169 ti169 := ⟨⟨_, Try.underlying169, fun _ h => (by cases h), fun _ _ h => (by cases h)⟩, by kernel_rfl, rfl, fun _ => ⟨rfl, rfl⟩, fun h => (by cases h)⟩
def ti170 : TI := ⟨1, [.nilFunc], .other, false⟩
theorem tiok170 : TIok Try.prog 170 ti170 := ⟨⟨_, Try.underlying170, fun _ h => (by cases h), fun _ _ h => (by cases h)⟩, by kernel_rfl, rfl, fun _ => ⟨rfl, rfl⟩, fun h => (by cases h)⟩
def ti171 : TI := ⟨1, [.nilFunc], .other, false⟩
theorem tiok171 : TIok Try.prog 171 ti171 := ⟨⟨_, Try.underlying171, fun _ h => (by cases h), fun _ _ h => (by cases h)⟩, by kernel_rfl, rfl, fun _ => ⟨rfl, rfl⟩, fun h => (by cases h)⟩
def ti172 : TI := ⟨1, [.nilFunc], .other, false⟩
theorem tiok172 : TIok Try.prog 172 ti172 := ⟨⟨_, Try.underlying172, fun _ h => (by cases h), fun _ _ h => (by cases h)⟩, by kernel_rfl, rfl, fun _ => ⟨rfl, rfl⟩, fun h => (by cases h)⟩
def ti173 : TI := ⟨1, [.nilFunc], .other, false⟩
theorem tiok173 : TIok Try.prog 173 ti173 := ⟨⟨_, Try.underlying173, fun _ h => (by cases h), fun _ _ h => (by cases h)⟩, by kernel_rfl, rfl, fun _ => ⟨rfl, rfl⟩, fun h => (by cases h)⟩
def ti174 : TI := ⟨1, [.map none], .other, false⟩
theorem tiok174 : TIok Try.prog 174 ti174 := ⟨⟨_, Try.underlying174, fun _ h => (by cases h), fun _ _ h => (by cases h)⟩, by kernel_rfl, rfl, fun _ => ⟨rfl, rfl⟩, fun h => (by cases h)⟩
def ti175 : TI := ⟨1, [.nilFunc], .other, false⟩
theorem tiok175 : TIok Try.prog 175 ti175 := ⟨⟨_, Try.underlying175, fun _ h => (by cases h), fun _ _ h => (by cases h)⟩, by kernel_rfl, rfl, fun _ => ⟨rfl, rfl⟩, fun h => (by cases h)⟩
def ti176 : TI := ⟨1, [.nilFunc], .other, false⟩
theorem tiok176 : TIok Try.prog 176 ti176 := ⟨⟨_, Try.underlying176, fun _ h => (by cases h), fun _ _ h => (by cases h)⟩, by kernel_rfl, rfl, fun _ => ⟨rfl, rfl⟩, fun h => (by cases h)⟩
def ti178 : TI := ⟨1, [.nilFunc], .other, false⟩
theorem tiok178 : TIok Try.prog 178 ti178 := ⟨⟨_, Try.underlying178, fun _ h => (by cases h), fun _ _ h => (by cases h)⟩, by kernel_rfl, rfl, fun _ => ⟨rfl, rfl⟩, fun h => (by cases h)⟩
def ti179 : TI := ⟨1, [.nilFunc], .other, false⟩
theorem tiok179 : TIok Try.prog 179 ti179 := ⟨⟨_, Try.underlying179, fun _ h => (by cases h), fun _ _ h => (by cases h)⟩, by kernel_rfl, rfl, fun _ => ⟨rfl, rfl⟩, fun h => (by cases h)⟩
def ti181 : TI := ⟨1, [.nilFunc], .other, false⟩
theorem tiok181 : TIok Try.prog 181 ti181 := ⟨⟨_, Try.underlying181, fun _ h => (by cases h), fun _ _ h => (by cases h)⟩, by kernel_rfl, rfl, fun _ => ⟨rfl, rfl⟩, fun h => (by cases h)⟩
def ti182 : TI := ⟨1, [.nilFunc], .other, false⟩
theorem tiok182 : TIok Try.prog 182 ti182 := ⟨⟨_, Try.underlying182, fun _ h => (by cases h), fun _ _ h => (by cases h)⟩, by kernel_rfl, rfl, fun _ => ⟨rfl, rfl⟩, fun h => (by cases h)⟩
def ti183 : TI := ⟨1, [.nilFunc], .other, false⟩
theorem tiok183 : TIok Try.prog 183 ti183 := ⟨⟨_, Try.underlying183, fun _ h => (by cases h), fun _ _ h => (by cases h)⟩, by kernel_rfl, rfl, fun _ => ⟨rfl, rfl⟩, fun h => (by cases h)⟩
def ti184 : TI := ⟨1, [.nilFunc], .other, false⟩
theorem tiok184 : TIok Try.prog 184 ti184 := ⟨⟨_, Try.underlying184, fun _ h => (by cases h), fun _ _ h => (by cases h)⟩, by kernel_rfl, rfl, fun _ => ⟨rfl, rfl⟩, fun h => (by cases h)⟩
def ti185 : TI := ⟨1, [.nilFunc], .other, false⟩
theorem tiok185 : TIok Try.prog 185 ti185 := ⟨⟨_, Try.underlying185, fun _ h => (by cases h), fun _ _ h => (by cases h)⟩, by kernel_rfl, rfl, fun _ => ⟨rfl, rfl⟩, fun h => (by cases h)⟩
def ti189 : TI := ⟨1, [.nilFunc], .other, false⟩
theorem tiok189 : TIok Try.prog 189 ti189 := ⟨⟨_, Try.underlying189, fun _ h => (by cases h), fun _ _ h => (by cases h)⟩, by kernel_rfl, rfl, fun _ => ⟨rfl, rfl⟩, fun h => (by cases h)⟩
def ti190 : TI := ⟨1, [.pointer none], .other, false⟩
theorem tiok190 : TIok Try.prog 190 ti190 := ⟨⟨_, Try.underlying190, fun _ h => (by cases h), fun _ _ h => (by cases h)⟩, by kernel_rfl, rfl, fun _ => ⟨rfl, rfl⟩, fun h => (by cases h)⟩
def ti191 : TI := ⟨1, [.nilFunc], .other, false⟩
theorem tiok191 : TIok Try.prog 191 ti191 := ⟨⟨_, Try.underlying191, fun _ h => (by cases h), fun _ _ h => (by cases h)⟩, by kernel_rfl, rfl, fun _ => ⟨rfl, rfl⟩, fun h => (by cases h)⟩
def ti192 : TI := ⟨1, [.nilFunc], .other, false⟩
theorem tiok192 : TIok Try.prog 192 ti192 := ⟨⟨_, Try.underlying192, fun _ h => (by cases h), fun _ _ h => (by cases h)⟩, by kernel_rfl, rfl, fun _ => ⟨rfl, rfl⟩, fun h => (by cases h)⟩
def ti193 : TI := ⟨1, [.nilFunc], .other, false⟩
theorem tiok193 : TIok Try.prog 193 ti193 := ⟨⟨_, Try.underlying193, fun _ h => (by cases h), fun _ _ h => (by cases h)⟩, by kernel_rfl, rfl, fun _ => ⟨rfl, rfl⟩, fun h => (by cases h)⟩
def ti194 : TI := ⟨1, [.nilFunc], .other, false⟩
theorem tiok194 : TIok Try.prog 194 ti194 := ⟨⟨_, Try.underlying194, fun _ h => (by cases h), fun _ _ h => (by cases h)⟩, by kernel_rfl, rfl, fun _ => ⟨rfl, rfl⟩, fun h => (by cases h)⟩
def ti197 : TI := ⟨1, [.nilFunc], .other, false⟩
theorem tiok197 : TIok Try.prog 197 ti197 := ⟨⟨_, Try.underlying197, fun _ h => (by cases h), fun _ _ h => (by cases h)⟩, by kernel_rfl, rfl, fun _ => ⟨rfl, rfl⟩, fun h => (by cases h)⟩
def ti198 : TI := ⟨1, [.nilFunc], .other, false⟩
theorem tiok198 : TIok Try.prog 198 ti198 := ⟨⟨_, Try.underlying198, fun _ h => (by cases h), fun _ _ h => (by cases h)⟩, by kernel_rfl, rfl, fun _ => ⟨rfl, rfl⟩, fun h => (by cases h)⟩
def ti199 : TI := ⟨1, [.nilFunc], .other, false⟩
theorem tiok199 : TIok Try.prog 199 ti199 := ⟨⟨_, Try.underlying199, fun _ h => (by cases h), fun _ _ h => (by cases h)⟩, by kernel_rfl, rfl, fun _ => ⟨rfl, rfl⟩, fun h => (by cases h)⟩
def ti200 : TI := ⟨1, [.nilFunc], .other, false⟩
theorem tiok200 : TIok Try.prog 200 ti200 := ⟨⟨_, Try.underlying200, fun _ h => (by cases h), fun _ _ h => (by cases h)⟩, by kernel_rfl, rfl, fun _ => ⟨rfl, rfl⟩, fun h => (by cases h)⟩
def ti201 : TI := ⟨1, [.nilFunc], .other, false⟩
theorem tiok201 : TIok Try.prog 201 ti201 := ⟨⟨_, Try.underlying201, fun _ h => (by cases h), fun _ _ h => (by cases h)⟩, by kernel_rfl, rfl, fun _ => ⟨rfl, rfl⟩, fun h => (by cases h)⟩
def ti202 : TI := ⟨1, [.nilFunc], .other, false⟩
theorem tiok202 : TIok Try.prog 202 ti202 := ⟨⟨_, Try.underlying202, fun _ h => (by cases h), fun _ _ h => (by cases h)⟩, by kernel_rfl, rfl, fun _ => ⟨rfl, rfl⟩, fun h => (by cases h)⟩
def ti203 : TI := ⟨1, [.pointer none], .other, false⟩
theorem tiok203 : TIok Try.prog 203 ti203 := ⟨⟨_, Try.underlying203, fun _ h => (by cases h), fun _ _ h => (by cases h)⟩, by kernel_rfl, rfl, fun _ => ⟨rfl, rfl⟩, fun h => (by cases h)⟩
def ti204 : TI := ⟨1, [.nilFunc], .other, false⟩
theorem tiok204 : TIok Try.prog 204 ti204 := ⟨⟨_, Try.underlying204, fun _ h => (by cases h), fun _ _ h => (by cases h)⟩, by kernel_rfl, rfl, fun _ => ⟨rfl, rfl⟩, fun h => (by cases h)⟩
def ti205 : TI := ⟨1, [.nilFunc], .other, false⟩
theorem tiok205 : TIok Try.prog 205 ti205 := ⟨⟨_, Try.underlying205, fun _ h => (by cases h), fun _ _ h => (by cases h)⟩, by kernel_rfl, rfl, fun _ => ⟨rfl, rfl⟩, fun h => (by cases h)⟩
def ti206 : TI := ⟨1, [.nilFunc], .other, false⟩
theorem tiok206 : TIok Try.prog 206 ti206 := ⟨⟨_, Try.underlying206, fun _ h => (by cases h), fun _ _ h => (by cases h)⟩, by kernel_rfl, rfl, fun _ => ⟨rfl, rfl⟩, fun h => (by cases h)⟩
def ti207 : TI := ⟨1, [.nilFunc], .other, false⟩
theorem tiok207 : TIok Try.prog 207 ti207 := ⟨⟨_, Try.underlying207, fun _ h => (by cases h), fun _ _ h => (by cases h)⟩, by kernel_rfl, rfl, fun _ => ⟨rfl, rfl⟩, fun h => (by cases h)⟩
def ti208 : TI := ⟨1, [.nilFunc], .other, false⟩
theorem tiok208 : TIok Try.prog 208 ti208 := ⟨⟨_, Try.underlying208, fun _ h => (by cases h), fun _ _ h => (by cases h)⟩, by kernel_rfl, rfl, fun _ => ⟨rfl, rfl⟩, fun h => (by cases h)⟩
def ti209 : TI := ⟨1, [.nilFunc], .other, false⟩
theorem tiok209 : TIok Try.prog 209 ti209 := ⟨⟨_, Try.underlying209, fun _ h => (by cases h), fun _ _ h => (by cases h)⟩, by kernel_rfl, rfl, fun _ => ⟨rfl, rfl⟩, fun h => (by cases h)⟩
def ti210 : TI := ⟨1, [.nilFunc], .other, false⟩
theorem tiok210 : TIok Try.prog 210 ti210 := ⟨⟨_, Try.underlying210, fun _ h => (by cases h), fun _ _ h => (by cases h)⟩, by kernel_rfl, rfl, fun _ => ⟨rfl, rfl⟩, fun h => (by cases h)⟩
def ti211 : TI := ⟨1, [.nilFunc], .other, false⟩
theorem tiok211 : TIok Try.prog 211 ti211 := ⟨⟨_, Try.underlying211, fun _ h => (by cases h), fun _ _ h => (by cases h)⟩, by kernel_rfl, rfl, fun _ => ⟨rfl, rfl⟩, fun h => (by cases h)⟩
def ti212 : TI := ⟨1, [.nilFunc], .other, false⟩
theorem tiok212 : TIok Try.prog 212 ti212 := ⟨⟨_, Try.underlying212, fun _ h => (by cases h), fun _ _ h => (by cases h)⟩, by kernel_rfl, rfl, fun _ => ⟨rfl, rfl⟩, fun h => (by cases h)⟩
def ti213 : TI := ⟨1, [.int .u32 0], .int .u32, false⟩
theorem tiok213 : TIok Try.prog 213 ti213 := ⟨⟨_, Try.underlying213, rfl⟩, by kernel_rfl, rfl, fun _ => ⟨rfl, rfl⟩, fun h => (by cases h)⟩
def ti215 : TI := ⟨1, [.nilFunc], .other, false⟩
theorem tiok215 : TIok Try.prog 215 ti215 := ⟨⟨_, Try.underlying215, fun _ h => (by cases h), fun _ _ h => (by cases h)⟩, by kernel_rfl, rfl, fun _ => ⟨rfl, rfl⟩, fun h => (by cases h)⟩
def ti223 : TI := ⟨1, [.nilFunc], .other, false⟩
theorem tiok223 : TIok Try.prog 223 ti223 := ⟨⟨_, Try.underlying223, fun _ h => (by cases h), fun _ _ h => (by cases h)⟩, by kernel_rfl, rfl, fun _ => ⟨rfl, rfl⟩, fun h => (by cases h)⟩
def ti224 : TI := ⟨1, [.int .i32 0], .int .i32, false⟩
theorem tiok224 : TIok Try.prog 224 ti224 := ⟨⟨_, Try.underlying224, rfl⟩, by kernel_rfl, rfl, fun _ => ⟨rfl, rfl⟩, fun h => (by cases h)⟩
def ti225 : TI := ⟨1, [.int .i32 0], .int .i32, false⟩
theorem tiok225 : TIok Try.prog 225 ti225 := ⟨⟨_, Try.underlying225, rfl⟩, by kernel_rfl, rfl, fun _ => ⟨rfl, rfl⟩, fun h => (by cases h)⟩
def tt : TT := [(2, ti2), (3, ti3), (4, ti4), (5, ti5), (6, ti6), (9, ti9), (10, ti10), (11, ti11), (37, ti37), (221, ti221), (222, ti222), (7, ti7), (8, ti8), (13, ti13), (14, ti14), (18, ti18), (19, ti19), (22, ti22), (23, ti23), (27, ti27), (28, ti28), (30, ti30), (31, ti31), (33, ti33), (34, ti34), (35, ti35), (36, ti36), (45, ti45), (46, ti46), (61, ti61), (64, ti64), (77, ti77), (85, ti85), (86, ti86), (97, ti97), (128, ti128), (129, ti129), (132, ti132), (135, ti135), (136, ti136), (138, ti138), (139, ti139), (148, ti148), (186, ti186), (187, ti187), (195, ti195), (196, ti196), (216, ti216), (217, ti217), (226, ti226), (227, ti227), (1, ti1), (12, ti12), (15, ti15), (16, ti16), (17, ti17), (20, ti20), (21, ti21), (24, ti24), (25, ti25), (26, ti26), (29, ti29), (32, ti32), (39, ti39), (41, ti41), (42, ti42), (43, ti43), (44, ti44), (48, ti48), (50, ti50), (52, ti52), (53, ti53), (54, ti54), (56, ti56), (57, ti57), (58, ti58), (59, ti59), (60, ti60), (63, ti63), (66, ti66), (67, ti67), (68, ti68), (70, ti70), (72, ti72), (74, ti74), (76, ti76), (79, ti79), (81, ti81), (82, ti82), (83, ti83), (84, ti84), (88, ti88), (90, ti90), (91, ti91), (92, ti92), (93, ti93), (94, ti94), (95, ti95), (96, ti96), (99, ti99), (101, ti101), (102, ti102), (103, ti103), (104, ti104), (105, ti105), (106, ti106), (107, ti107), (108, ti108), (109, ti109), (110, ti110), (112, ti112), (113, ti113), (114, ti114), (115, ti115), (116, ti116), (117, ti117), (118, ti118), (119, ti119), (121, ti121), (122, ti122), (123, ti123), (124, ti124), (125, ti125), (126, ti126), (127, ti127), (131, ti131), (134, ti134), (137, ti137), (140, ti140), (141, ti141), (142, ti142), (143, ti143), (145, ti145), (146, ti146), (147, ti147), (149, ti149), (150, ti150), (151, ti151), (152, ti152), (154, ti154), (155, ti155), (157, ti157), (158, ti158), (159, ti159), (160, ti160), (161, ti161), (162, ti162), (163, ti163), (164, ti164), (165, ti165), (166, ti166), (168, ti168), (169, ti169), (170, ti170), (171, ti171), (172, ti172), (173, ti173), (174, ti174), (175, ti175), (176, ti176), (178, ti178), (179, ti179), (181, ti181), (182, ti182), (183, ti183), (184, ti184), (185, ti185), (189, ti189), (190, ti190), (191, ti191), (192, ti192), (193, ti193), (194, ti194), (197, ti197), (198, ti198), (199, ti199), (200, ti200), (201, ti201), (202, ti202), (203, ti203), (204, ti204), (205, ti205), (206, ti206), (207, ti207), (208, ti208), (209, ti209), (210, ti210), (211, ti211), (212, ti212), (213, ti213), (215, ti215), (223, ti223), (224, ti224), (225, ti225)]
theorem tt_ok : TOk Try.prog tt := TOk.cons tiok2 (TOk.cons tiok3 (TOk.cons tiok4 (TOk.cons tiok5 (TOk.cons tiok6 (TOk.cons tiok9 (TOk.cons tiok10 (TOk.cons tiok11 (TOk.cons tiok37 (TOk.cons tiok221 (TOk.cons tiok222 (TOk.cons tiok7 (TOk.cons tiok8 (TOk.cons tiok13 (TOk.cons tiok14 (TOk.cons tiok18 (TOk.cons tiok19 (TOk.cons tiok22 (TOk.cons tiok23 (TOk.cons tiok27 (TOk.cons tiok28 (TOk.cons tiok30 (TOk.cons tiok31 (TOk.cons tiok33 (TOk.cons tiok34 (TOk.cons tiok35 (TOk.cons tiok36 (TOk.cons tiok45 (TOk.cons tiok46 (TOk.cons tiok61 (TOk.cons tiok64 (TOk.cons tiok77 (TOk.cons tiok85 (TOk.cons tiok86 (TOk.cons tiok97 (TOk.cons tiok128 (TOk.cons tiok129 (TOk.cons tiok132 (TOk.cons tiok135 (TOk.cons tiok136 (TOk.cons tiok138 (TOk.cons tiok139 (TOk.cons tiok148 (TOk.cons tiok186 (TOk.cons tiok187 (TOk.cons tiok195 (TOk.cons tiok196 (TOk.cons tiok216 (TOk.cons tiok217 (TOk.cons tiok226 (TOk.cons tiok227 (TOk.cons tiok1 (TOk.cons tiok12 (TOk.cons tiok15 (TOk.cons tiok16 (TOk.cons tiok17 (TOk.cons tiok20 (TOk.cons tiok21 (TOk.cons tiok24 (TOk.cons tiok25 (TOk.cons tiok26 (TOk.cons tiok29 (TOk.cons tiok32 (TOk.cons tiok39 (TOk.cons tiok41 (TOk.cons tiok42 (TOk.cons tiok43 (TOk.cons tiok44 (TOk.cons tiok48 (TOk.cons tiok50 (TOk.cons tiok52 (TOk.cons tiok53 (TOk.cons tiok54 (TOk.cons tiok56 (TOk.cons tiok57 (TOk.cons tiok58 (TOk.cons tiok59 (TOk.cons tiok60 (TOk.cons tiok63 (TOk.cons tiok66 (TOk.cons tiok67 (TOk.cons tiok68 (TOk.cons tiok70 (TOk.cons tiok72 (TOk.cons tiok74 (TOk.cons tiok76 (TOk.cons tiok79 (TOk.cons tiok81 (TOk.cons tiok82 (TOk.cons tiok83 (TOk.cons tiok84 (TOk.cons tiok88 (TOk.cons tiok90 (TOk.cons tiok91 (TOk.cons tiok92 (TOk.cons tiok93 (TOk.cons tiok94 (TOk.cons tiok95 (TOk.cons tiok96 (TOk.cons tiok99 (TOk.cons tiok101 (TOk.cons tiok102 (TOk.cons tiok103 (TOk.cons tiok104 (TOk.cons tiok105 (TOk.cons tiok106 (TOk.cons tiok107 (TOk.cons tiok108 (TOk.cons tiok109 (TOk.cons tiok110 (TOk.cons tiok112 (TOk.cons tiok113 (TOk.cons tiok114 (TOk.cons tiok115 (TOk.cons tiok116 (TOk.cons tiok117 (TOk.cons tiok118 (TOk.cons tiok119 (TOk.cons tiok121 (TOk.cons tiok122 (TOk.cons tiok123 (TOk.cons tiok124 (TOk.cons tiok125 (TOk.cons tiok126 (TOk.cons tiok127 (TOk.cons tiok131 (TOk.cons tiok134 (TOk.cons tiok137 (TOk.cons tiok140 (TOk.cons tiok141 (TOk.cons tiok142 (TOk.cons tiok143 (TOk.cons tiok145 (TOk.cons tiok146 (TOk.cons tiok147 (TOk.cons tiok149 (TOk.cons tiok150 (TOk.cons tiok151 (TOk.cons tiok152 (TOk.cons tiok154 (TOk.cons tiok155 (TOk.cons tiok157 (TOk.cons tiok158 (TOk.cons tiok159 (TOk.cons tiok160 (TOk.cons tiok161 (TOk.cons tiok162 (TOk.cons tiok163 (TOk.cons tiok164 (TOk.cons tiok165 (TOk.cons tiok166 (TOk.cons tiok168 (TOk.cons tiok169 (TOk.cons tiok170 (TOk.cons tiok171 (TOk.cons tiok172 (TOk.cons tiok173 (TOk.cons tiok174 (TOk.cons tiok175 (TOk.cons tiok176 (TOk.cons tiok178 (TOk.cons tiok179 (TOk.cons tiok181 (TOk.cons tiok182 (TOk.cons tiok183 (TOk.cons tiok184 (TOk.cons tiok185 (TOk.cons tiok189 (TOk.cons tiok190 (TOk.cons tiok191 (TOk.cons tiok192 (TOk.cons tiok193 (TOk.cons tiok194 (TOk.cons tiok197 (TOk.cons tiok198 (TOk.cons tiok199 (TOk.cons tiok200 (TOk.cons tiok201 (TOk.cons tiok202 (TOk.cons tiok203 (TOk.cons tiok204 (TOk.cons tiok205 (TOk.cons tiok206 (TOk.cons tiok207 (TOk.cons tiok208 (TOk.cons tiok209 (TOk.cons tiok210 (TOk.cons tiok211 (TOk.cons tiok212 (TOk.cons tiok213 (TOk.cons tiok215 (TOk.cons tiok223 (TOk.cons tiok224 (TOk.cons tiok225 (TOk.nil _))))))))))))))))))))))))))))))))))))))))))))))))))))))))))))))))))))))))))))))))))))))))))))))))))))))))))))))))))))))))))))))))))))))))))))))))))))))))))))))))))))))))))))))))))))))))))))))))))
theorem fn3 : Fn1 Try.prog 3 := ⟨fun a w => run_callFunc Try.func3 rfl (by kernel_rfl) a w⟩
theorem fn4 : Fn1 Try.prog 4 := ⟨fun a w => run_callFunc Try.func4 rfl (by kernel_rfl) a w⟩
theorem fn5 : Fn1 Try.prog 5 := ⟨fun a w => run_callFunc Try.func5 rfl (by kernel_rfl) a w⟩
theorem fn6 : Fn1 Try.prog 6 := ⟨fun a w => run_callFunc Try.func6 rfl (by kernel_rfl) a w⟩
theorem fn7 : Fn1 Try.prog 7 := ⟨fun a w => run_callFunc Try.func7 rfl (by kernel_rfl) a w⟩
theorem fn8 : Fn1 Try.prog 8 := ⟨fun a w => run_callFunc Try.func8 rfl (by kernel_rfl) a w⟩
theorem fn9 : Fn1 Try.prog 9 := ⟨fun a w => run_callFunc Try.func9 rfl (by kernel_rfl) a w⟩
theorem fn10 : Fn1 Try.prog 10 := ⟨fun a w => run_callFunc Try.func10 rfl (by kernel_rfl) a w⟩
theorem fn11 : Fn1 Try.prog 11 := ⟨fun a w => run_callFunc Try.func11 rfl (by kernel_rfl) a w⟩
theorem fn12 : Fn1 Try.prog 12 := ⟨fun a w => run_callFunc Try.func12 rfl (by kernel_rfl) a w⟩
theorem fn13 : Fn1 Try.prog 13 := ⟨fun a w => run_callFunc Try.func13 rfl (by kernel_rfl) a w⟩
theorem fn14 : Fn1 Try.prog 14 := ⟨fun a w => run_callFunc Try.func14 rfl (by kernel_rfl) a w⟩
theorem fn15 : Fn1 Try.prog 15 := ⟨fun a w => run_callFunc Try.func15 rfl (by kernel_rfl) a w⟩
theorem fn16 : Fn1 Try.prog 16 := ⟨fun a w => run_callFunc Try.func16 rfl (by kernel_rfl) a w⟩
theorem fn17 : Fn1 Try.prog 17 := ⟨fun a w => run_callFunc Try.func17 rfl (by kernel_rfl) a w⟩
theorem fn18 : Fn1 Try.prog 18 := ⟨fun a w => run_callFunc Try.func18 rfl (by kernel_rfl) a w⟩
theorem fn19 : Fn1 Try.prog 19 := ⟨fun a w => run_callFunc Try.func19 rfl (by kernel_rfl) a w⟩
theorem fn20 : Fn1 Try.prog 20 := ⟨fun a w => run_callFunc Try.func20 rfl (by kernel_rfl) a w⟩
theorem fn21 : Fn1 Try.prog 21 := ⟨fun a w => run_callFunc Try.func21 rfl (by kernel_rfl) a w⟩
theorem fn22 : Fn1 Try.prog 22 := ⟨fun a w => run_callFunc Try.func22 rfl (by kernel_rfl) a w⟩
theorem fn23 : Fn1 Try.prog 23 := ⟨fun a w => run_callFunc Try.func23 rfl (by kernel_rfl) a w⟩
theorem fn24 : Fn1 Try.prog 24 := ⟨fun a w => run_callFunc Try.func24 rfl (by kernel_rfl) a w⟩
theorem fn25 : Fn1 Try.prog 25 := ⟨fun a w => run_callFunc Try.func25 rfl (by kernel_rfl) a w⟩
theorem fn26 : Fn1 Try.prog 26 := ⟨fun a w => run_callFunc Try.func26 rfl (by kernel_rfl) a w⟩
theorem fn27 : Fn1 Try.prog 27 := ⟨fun a w => run_callFunc Try.func27 rfl (by kernel_rfl) a w⟩
theorem fn28 : Fn1 Try.prog 28 := ⟨fun a w => run_callFunc Try.func28 rfl (by kernel_rfl) a w⟩
theorem fn29 : Fn1 Try.prog 29 := ⟨fun a w => run_callFunc Try.func29 rfl (by kernel_rfl) a w⟩
theorem fn30 : Fn1 Try.prog 30 := ⟨fun a w => run_callFunc Try.func30 rfl (by kernel_rfl) a w⟩
theorem fn31 : Fn1 Try.prog 31 := ⟨fun a w => run_callFunc Try.func31 rfl (by kernel_rfl) a w⟩
theorem fn32 : Fn1 Try.prog 32 := ⟨fun a w => run_callFunc Try.func32 rfl (by kernel_rfl) a w⟩
theorem fn33 : Fn1 Try.prog 33 := ⟨fun a w => run_callFunc Try.func33 rfl (by kernel_rfl) a w⟩
theorem fn34 : Fn1 Try.prog 34 := ⟨fun a w => run_callFunc Try.func34 rfl (by kernel_rfl) a w⟩
theorem fn35 : Fn1 Try.prog 35 := ⟨fun a w => run_callFunc Try.func35 rfl (by kernel_rfl) a w⟩
theorem fn36 : Fn1 Try.prog 36 := ⟨fun a w => run_callFunc Try.func36 rfl (by kernel_rfl) a w⟩
theorem fn37 : Fn1 Try.prog 37 := ⟨fun a w => run_callFunc Try.func37 rfl (by kernel_rfl) a w⟩
theorem fn38 : Fn1 Try.prog 38 := ⟨fun a w => run_callFunc Try.func38 rfl (by kernel_rfl) a w⟩
theorem fn39 : Fn1 Try.prog 39 := ⟨fun a w => run_callFunc Try.func39 rfl (by kernel_rfl) a w⟩
theorem fn40 : Fn1 Try.prog 40 := ⟨fun a w => run_callFunc Try.func40 rfl (by kernel_rfl) a w⟩
theorem fn41 : Fn1 Try.prog 41 := ⟨fun a w => run_callFunc Try.func41 rfl (by kernel_rfl) a w⟩
theorem fn42 : Fn1 Try.prog 42 := ⟨fun a w => run_callFunc Try.func42 rfl (by kernel_rfl) a w⟩
theorem fn43 : Fn1 Try.prog 43 := ⟨fun a w => run_callFunc Try.func43 rfl (by kernel_rfl) a w⟩
theorem fn44 : Fn1 Try.prog 44 := ⟨fun a w => run_callFunc Try.func44 rfl (by kernel_rfl) a w⟩
theorem fn45 : Fn1 Try.prog 45 := ⟨fun a w => run_callFunc Try.func45 rfl (by kernel_rfl) a w⟩
theorem fn46 : Fn1 Try.prog 46 := ⟨fun a w => run_callFunc Try.func46 rfl (by kernel_rfl) a w⟩
theorem fn47 : Fn1 Try.prog 47 := ⟨fun a w => run_callFunc Try.func47 rfl (by kernel_rfl) a w⟩
theorem fn48 : Fn1 Try.prog 48 := ⟨fun a w => run_callFunc Try.func48 rfl (by kernel_rfl) a w⟩
theorem fn49 : Fn1 Try.prog 49 := ⟨fun a w => run_callFunc Try.func49 rfl (by kernel_rfl) a w⟩
theorem fn50 : Fn1 Try.prog 50 := ⟨fun a w => run_callFunc Try.func50 rfl (by kernel_rfl) a w⟩
theorem fn51 : Fn1 Try.prog 51 := ⟨fun a w => run_callFunc Try.func51 rfl (by kernel_rfl) a w⟩
theorem fn52 : Fn1 Try.prog 52 := ⟨fun a w => run_callFunc Try.func52 rfl (by kernel_rfl) a w⟩
theorem fn53 : Fn1 Try.prog 53 := ⟨fun a w => run_callFunc Try.func53 rfl (by kernel_rfl) a w⟩
theorem fn54 : Fn1 Try.prog 54 := ⟨fun a w => run_callFunc Try.func54 rfl (by kernel_rfl) a w⟩
theorem fn55 : Fn1 Try.prog 55 := ⟨fun a w => run_callFunc Try.func55 rfl (by kernel_rfl) a w⟩
theorem fn56 : Fn1 Try.prog 56 := ⟨fun a w => run_callFunc Try.func56 rfl (by kernel_rfl) a w⟩
theorem fn57 : Fn1 Try.prog 57 := ⟨fun a w => run_callFunc Try.func57 rfl (by kernel_rfl) a w⟩
theorem fn58 : Fn1 Try.prog 58 := ⟨fun a w => run_callFunc Try.func58 rfl (by kernel_rfl) a w⟩
theorem fn59 : Fn1 Try.prog 59 := ⟨fun a w => run_callFunc Try.func59 rfl (by kernel_rfl) a w⟩
theorem fn60 : Fn1 Try.prog 60 := ⟨fun a w => run_callFunc Try.func60 rfl (by kernel_rfl) a w⟩
theorem fn61 : Fn1 Try.prog 61 := ⟨fun a w => run_callFunc Try.func61 rfl (by kernel_rfl) a w⟩
theorem fn62 : Fn1 Try.prog 62 := ⟨fun a w => run_callFunc Try.func62 rfl (by kernel_rfl) a w⟩
theorem fn63 : Fn1 Try.prog 63 := ⟨fun a w => run_callFunc Try.func63 rfl (by kernel_rfl) a w⟩
theorem fn64 : Fn1 Try.prog 64 := ⟨fun a w => run_callFunc Try.func64 rfl (by kernel_rfl) a w⟩
theorem fn65 : Fn1 Try.prog 65 := ⟨fun a w => run_callFunc Try.func65 rfl (by kernel_rfl) a w⟩
theorem fn66 : Fn1 Try.prog 66 := ⟨fun a w => run_callFunc Try.func66 rfl (by kernel_rfl) a w⟩
theorem fn67 : Fn1 Try.prog 67 := ⟨fun a w => run_callFunc Try.func67 rfl (by kernel_rfl) a w⟩
theorem fn68 : Fn1 Try.prog 68 := ⟨fun a w => run_callFunc Try.func68 rfl (by kernel_rfl) a w⟩
theorem fn69 : Fn1 Try.prog 69 := ⟨fun a w => run_callFunc Try.func69 rfl (by kernel_rfl) a w⟩
theorem fn70 : Fn1 Try.prog 70 := ⟨fun a w => run_callFunc Try.func70 rfl (by kernel_rfl) a w⟩
theorem fn71 : Fn1 Try.prog 71 := ⟨fun a w => run_callFunc Try.func71 rfl (by kernel_rfl) a w⟩
theorem fn72 : Fn1 Try.prog 72 := ⟨fun a w => run_callFunc Try.func72 rfl (by kernel_rfl) a w⟩
theorem fn73 : Fn1 Try.prog 73 := ⟨fun a w => run_callFunc Try.func73 rfl (by kernel_rfl) a w⟩
theorem fn74 : Fn1 Try.prog 74 := ⟨fun a w => run_callFunc Try.func74 rfl (by kernel_rfl) a w⟩
theorem fn75 : Fn1 Try.prog 75 := ⟨fun a w => run_callFunc Try.func75 rfl (by kernel_rfl) a w⟩
theorem fn76 : Fn1 Try.prog 76 := ⟨fun a w => run_callFunc Try.func76 rfl (by kernel_rfl) a w⟩
theorem fn77 : Fn1 Try.prog 77 := ⟨fun a w => run_callFunc Try.func77 rfl (by kernel_rfl) a w⟩
theorem fn78 : Fn1 Try.prog 78 := ⟨fun a w => run_callFunc Try.func78 rfl (by kernel_rfl) a w⟩
theorem fn79 : Fn1 Try.prog 79 := ⟨fun a w => run_callFunc Try.func79 rfl (by kernel_rfl) a w⟩
theorem fn80 : Fn1 Try.prog 80 := ⟨fun a w => run_callFunc Try.func80 rfl (by kernel_rfl) a w⟩
theorem fn81 : Fn1 Try.prog 81 := ⟨fun a w => run_callFunc Try.func81 rfl (by kernel_rfl) a w⟩
theorem fn82 : Fn1 Try.prog 82 := ⟨fun a w => run_callFunc Try.func82 rfl (by kernel_rfl) a w⟩
theorem fn83 : Fn1 Try.prog 83 := ⟨fun a w => run_callFunc Try.func83 rfl (by kernel_rfl) a w⟩
theorem fn84 : Fn1 Try.prog 84 := ⟨fun a w => run_callFunc Try.func84 rfl (by kernel_rfl) a w⟩
theorem fn85 : Fn1 Try.prog 85 := ⟨fun a w => run_callFunc Try.func85 rfl (by kernel_rfl) a w⟩
theorem fn86 : Fn1 Try.prog 86 := ⟨fun a w => run_callFunc Try.func86 rfl (by kernel_rfl) a w⟩
theorem fn87 : Fn1 Try.prog 87 := ⟨fun a w => run_callFunc Try.func87 rfl (by kernel_rfl) a w⟩
theorem fn88 : Fn1 Try.prog 88 := ⟨fun a w => run_callFunc Try.func88 rfl (by kernel_rfl) a w⟩
theorem fn89 : Fn1 Try.prog 89 := ⟨fun a w => run_callFunc Try.func89 rfl (by kernel_rfl) a w⟩
theorem fn90 : Fn1 Try.prog 90 := ⟨fun a w => run_callFunc Try.func90 rfl (by kernel_rfl) a w⟩
theorem fn91 : Fn1 Try.prog 91 := ⟨fun a w => run_callFunc Try.func91 rfl (by kernel_rfl) a w⟩
theorem fn92 : Fn1 Try.prog 92 := ⟨fun a w => run_callFunc Try.func92 rfl (by kernel_rfl) a w⟩
theorem fn93 : Fn1 Try.prog 93 := ⟨fun a w => run_callFunc Try.func93 rfl (by kernel_rfl) a w⟩
theorem fn94 : Fn1 Try.prog 94 := ⟨fun a w => run_callFunc Try.func94 rfl (by kernel_rfl) a w⟩
theorem fn95 : Fn1 Try.prog 95 := ⟨fun a w => run_callFunc Try.func95 rfl (by kernel_rfl) a w⟩
theorem fn96 : Fn1 Try.prog 96 := ⟨fun a w => run_callFunc Try.func96 rfl (by kernel_rfl) a w⟩
theorem fn97 : Fn1 Try.prog 97 := ⟨fun a w => run_callFunc Try.func97 rfl (by kernel_rfl) a w⟩
theorem fn98 : Fn1 Try.prog 98 := ⟨fun a w => run_callFunc Try.func98 rfl (by kernel_rfl) a w⟩
theorem fn99 : Fn1 Try.prog 99 := ⟨fun a w => run_callFunc Try.func99 rfl (by kernel_rfl) a w⟩
theorem fn100 : Fn1 Try.prog 100 := ⟨fun a w => run_callFunc Try.func100 rfl (by kernel_rfl) a w⟩
theorem fn101 : Fn1 Try.prog 101 := ⟨fun a w => run_callFunc Try.func101 rfl (by kernel_rfl) a w⟩
theorem fn102 : Fn1 Try.prog 102 := ⟨fun a w => run_callFunc Try.func102 rfl (by kernel_rfl) a w⟩
theorem fn103 : Fn1 Try.prog 103 := ⟨fun a w => run_callFunc Try.func103 rfl (by kernel_rfl) a w⟩
theorem fn104 : Fn1 Try.prog 104 := ⟨fun a w => run_callFunc Try.func104 rfl (by kernel_rfl) a w⟩
theorem fn105 : Fn1 Try.prog 105 := ⟨fun a w => run_callFunc Try.func105 rfl (by kernel_rfl) a w⟩
theorem fn106 : Fn1 Try.prog 106 := ⟨fun a w => run_callFunc Try.func106 rfl (by kernel_rfl) a w⟩
theorem fn107 : Fn1 Try.prog 107 := ⟨fun a w => run_callFunc Try.func107 rfl (by kernel_rfl) a w⟩
theorem fn108 : Fn1 Try.prog 108 := ⟨fun a w => run_callFunc Try.func108 rfl (by kernel_rfl) a w⟩
theorem fn109 : Fn1 Try.prog 109 := ⟨fun a w => run_callFunc Try.func109 rfl (by kernel_rfl) a w⟩
theorem fn110 : Fn1 Try.prog 110 := ⟨fun a w => run_callFunc Try.func110 rfl (by kernel_rfl) a w⟩
theorem fn111 : Fn1 Try.prog 111 := ⟨fun a w => run_callFunc Try.func111 rfl (by kernel_rfl) a w⟩
theorem fn113 : Fn1 Try.prog 113 := ⟨fun a w => run_callFunc Try.func113 rfl (by kernel_rfl) a w⟩
theorem fn114 : Fn1 Try.prog 114 := ⟨fun a w => run_callFunc Try.func114 rfl (by kernel_rfl) a w⟩
theorem fn115 : Fn1 Try.prog 115 := ⟨fun a w => run_callFunc Try.func115 rfl (by kernel_rfl) a w⟩
theorem fn116 : Fn1 Try.prog 116 := ⟨fun a w => run_callFunc Try.func116 rfl (by kernel_rfl) a w⟩
theorem fn117 : Fn1 Try.prog 117 := ⟨fun a w => run_callFunc Try.func117 rfl (by kernel_rfl) a w⟩
theorem fn118 : Fn1 Try.prog 118 := ⟨fun a w => run_callFunc Try.func118 rfl (by kernel_rfl) a w⟩
theorem fn119 : Fn1 Try.prog 119 := ⟨fun a w => run_callFunc Try.func119 rfl (by kernel_rfl) a w⟩
theorem fn120 : Fn1 Try.prog 120 := ⟨fun a w => run_callFunc Try.func120 rfl (by kernel_rfl) a w⟩
theorem fn121 : Fn1 Try.prog 121 := ⟨fun a w => run_callFunc Try.func121 rfl (by kernel_rfl) a w⟩
theorem fn122 : Fn1 Try.prog 122 := ⟨fun a w => run_callFunc Try.func122 rfl (by kernel_rfl) a w⟩
theorem fn123 : Fn1 Try.prog 123 := ⟨fun a w => run_callFunc Try.func123 rfl (by kernel_rfl) a w⟩
theorem fn124 : Fn1 Try.prog 124 := ⟨fun a w => run_callFunc Try.func124 rfl (by kernel_rfl) a w⟩
theorem fn125 : Fn1 Try.prog 125 := ⟨fun a w => run_callFunc Try.func125 rfl (by kernel_rfl) a w⟩
theorem fn126 : Fn1 Try.prog 126 := ⟨fun a w => run_callFunc Try.func126 rfl (by kernel_rfl) a w⟩
theorem fn127 : Fn1 Try.prog 127 := ⟨fun a w => run_callFunc Try.func127 rfl (by kernel_rfl) a w⟩
theorem fn128 : Fn1 Try.prog 128 := ⟨fun a w => run_callFunc Try.func128 rfl (by kernel_rfl) a w⟩
theorem fn129 : Fn1 Try.prog 129 := ⟨fun a w => run_callFunc Try.func129 rfl (by kernel_rfl) a w⟩
theorem fn130 : Fn1 Try.prog 130 := ⟨fun a w => run_callFunc Try.func130 rfl (by kernel_rfl) a w⟩
theorem fn131 : Fn1 Try.prog 131 := ⟨fun a w => run_callFunc Try.func131 rfl (by kernel_rfl) a w⟩
theorem fn132 : Fn1 Try.prog 132 := ⟨fun a w => run_callFunc Try.func132 rfl (by kernel_rfl) a w⟩
theorem fn133 : Fn1 Try.prog 133 := ⟨fun a w => run_callFunc Try.func133 rfl (by kernel_rfl) a w⟩
theorem fn134 : Fn1 Try.prog 134 := ⟨fun a w => run_callFunc Try.func134 rfl (by kernel_rfl) a w⟩
theorem fn135 : Fn1 Try.prog 135 := ⟨fun a w => run_callFunc Try.func135 rfl (by kernel_rfl) a w⟩
theorem fn136 : Fn1 Try.prog 136 := ⟨fun a w => run_callFunc Try.func136 rfl (by kernel_rfl) a w⟩
theorem fn137 : Fn1 Try.prog 137 := ⟨fun a w => run_callFunc Try.func137 rfl (by kernel_rfl) a w⟩
theorem fn138 : Fn1 Try.prog 138 := ⟨fun a w => run_callFunc Try.func138 rfl (by kernel_rfl) a w⟩
theorem fn139 : Fn1 Try.prog 139 := ⟨fun a w => run_callFunc Try.func139 rfl (by kernel_rfl) a w⟩
theorem fn140 : Fn1 Try.prog 140 := ⟨fun a w => run_callFunc Try.func140 rfl (by kernel_rfl) a w⟩
theorem fn141 : Fn1 Try.prog 141 := ⟨fun a w => run_callFunc Try.func141 rfl (by kernel_rfl) a w⟩
theorem fn142 : Fn1 Try.prog 142 := ⟨fun a w => run_callFunc Try.func142 rfl (by kernel_rfl) a w⟩
theorem fn143 : Fn1 Try.prog 143 := ⟨fun a w => run_callFunc Try.func143 rfl (by kernel_rfl) a w⟩
theorem fn144 : Fn1 Try.prog 144 := ⟨fun a w => run_callFunc Try.func144 rfl (by kernel_rfl) a w⟩
theorem fn145 : Fn1 Try.prog 145 := ⟨fun a w => run_callFunc Try.func145 rfl (by kernel_rfl) a w⟩
theorem fn146 : Fn1 Try.prog 146 := ⟨fun a w => run_callFunc Try.func146 rfl (by kernel_rfl) a w⟩
theorem fn147 : Fn1 Try.prog 147 := ⟨fun a w => run_callFunc Try.func147 rfl (by kernel_rfl) a w⟩
theorem fn148 : Fn1 Try.prog 148 := ⟨fun a w => run_callFunc Try.func148 rfl (by kernel_rfl) a w⟩
theorem fn149 : Fn1 Try.prog 149 := ⟨fun a w => run_callFunc Try.func149 rfl (by kernel_rfl) a w⟩
theorem fn150 : Fn1 Try.prog 150 := ⟨fun a w => run_callFunc Try.func150 rfl (by kernel_rfl) a w⟩
theorem fn151 : Fn1 Try.prog 151 := ⟨fun a w => run_callFunc Try.func151 rfl (by kernel_rfl) a w⟩
theorem fn152 : Fn1 Try.prog 152 := ⟨fun a w => run_callFunc Try.func152 rfl (by kernel_rfl) a w⟩
theorem fn153 : Fn1 Try.prog 153 := ⟨fun a w => run_callFunc Try.func153 rfl (by kernel_rfl) a w⟩
theorem fn154 : Fn1 Try.prog 154 := ⟨fun a w => run_callFunc Try.func154 rfl (by kernel_rfl) a w⟩
theorem fn155 : Fn1 Try.prog 155 := ⟨fun a w => run_callFunc Try.func155 rfl (by kernel_rfl) a w⟩
theorem fn156 : Fn1 Try.prog 156 := ⟨fun a w => run_callFunc Try.func156 rfl (by kernel_rfl) a w⟩
theorem fn157 : Fn1 Try.prog 157 := ⟨fun a w => run_callFunc Try.func157 rfl (by kernel_rfl) a w⟩
theorem fn160 : Fn1 Try.prog 160 := ⟨fun a w => run_callFunc Try.func160 rfl (by kernel_rfl) a w⟩
theorem fn161 : Fn1 Try.prog 161 := ⟨fun a w => run_callFunc Try.func161 rfl (by kernel_rfl) a w⟩
theorem fn162 : Fn1 Try.prog 162 := ⟨fun a w => run_callFunc Try.func162 rfl (by kernel_rfl) a w⟩
theorem fn163 : Fn1 Try.prog 163 := ⟨fun a w => run_callFunc Try.func163 rfl (by kernel_rfl) a w⟩
theorem fn164 : Fn1 Try.prog 164 := ⟨fun a w => run_callFunc Try.func164 rfl (by kernel_rfl) a w⟩
theorem fn165 : Fn1 Try.prog 165 := ⟨fun a w => run_callFunc Try.func165 rfl (by kernel_rfl) a w⟩
theorem fn166 : Fn1 Try.prog 166 := ⟨fun a w => run_callFunc Try.func166 rfl (by kernel_rfl) a w⟩
theorem fn167 : Fn1 Try.prog 167 := ⟨fun a w => run_callFunc Try.func167 rfl (by kernel_rfl) a w⟩
theorem fn168 : Fn1 Try.prog 168 := ⟨fun a w => run_callFunc Try.func168 rfl (by kernel_rfl) a w⟩
theorem fn169 : Fn1 Try.prog 169 := ⟨fun a w => run_callFunc Try.func169 rfl (by kernel_rfl) a w⟩
theorem fn170 : Fn1 Try.prog 170 := ⟨fun a w => run_callFunc Try.func170 rfl (by kernel_rfl) a w⟩
theorem fn171 : Fn1 Try.prog 171 := ⟨fun a w => run_callFunc Try.func171 rfl (by kernel_rfl) a w⟩
theorem fn172 : Fn1 Try.prog 172 := ⟨fun a w => run_callFunc Try.func172 rfl (by kernel_rfl) a w⟩
theorem fn173 : Fn1 Try.prog 173 := ⟨fun a w => run_callFunc Try.func173 rfl (by kernel_rfl) a w⟩
theorem fn174 : Fn1 Try.prog 174 := ⟨fun a w => run_callFunc Try.func174 rfl (by kernel_rfl) a w⟩
theorem fn176 : Fn1 Try.prog 176 := ⟨fun a w => run_callFunc Try.func176 rfl (by kernel_rfl) a w⟩
theorem fn177 : Fn1 Try.prog 177 := ⟨fun a w => run_callFunc Try.func177 rfl (by kernel_rfl) a w⟩
theorem fn178 : Fn1 Try.prog 178 := ⟨fun a w => run_callFunc Try.func178 rfl (by kernel_rfl) a w⟩
theorem fn179 : Fn1 Try.prog 179 := ⟨fun a w => run_callFunc Try.func179 rfl (by kernel_rfl) a w⟩
theorem fn180 : Fn1 Try.prog 180 := ⟨fun a w => run_callFunc Try.func180 rfl (by kernel_rfl) a w⟩
theorem fn181 : Fn1 Try.prog 181 := ⟨fun a w => run_callFunc Try.func181 rfl (by kernel_rfl) a w⟩
theorem fn182 : Fn1 Try.prog 182 := ⟨fun a w => run_callFunc Try.func182 rfl (by kernel_rfl) a w⟩
theorem fn183 : Fn1 Try.prog 183 := ⟨fun a w => run_callFunc Try.func183 rfl (by kernel_rfl) a w⟩
theorem fn184 : Fn1 Try.prog 184 := ⟨fun a w => run_callFunc Try.func184 rfl (by kernel_rfl) a w⟩
theorem fn185 : Fn1 Try.prog 185 := ⟨fun a w => run_callFunc Try.func185 rfl (by kernel_rfl) a w⟩
theorem fn187 : Fn1 Try.prog 187 := ⟨fun a w => run_callFunc Try.func187 rfl (by kernel_rfl) a w⟩
end Go.Proofs.Ytdonomneofdhfaa
namespace Go.Proofs.Ytdonomneofdhfaa
open Go.GV Go.RowKit
theorem mix : Try.prog.follows .mixedOrders = true := by kernel_rfl
theorem noEscape_run (x : Value) (w : World) : (callFunc 158 #[x]).run Try.prog w = .ok (.value x) w := by
  rw [run_callFunc_extern Try.func158 (by kernel_rfl) (by kernel_rfl) (by kernel_rfl) (e := Extern.AbiNoEscape.same) (by kernel_rfl)]
  rfl
def bAddr (used : Bool) : SV := match used with
  | true => .p 0 0
  | false => .v (.pointer none)
set_option maxRecDepth 100000 in
theorem copyCheck_sc (used : Bool) (L : List UInt8) : SC Try.prog 140 (fun _ => True) 2 [(0, .box 139 [bAddr used, .r 1]), (1, .row 5 (byteY.d L))] [.p 0 0] (fun _ : Unit => ([(0, .box 139 [.p 0 0, .r 1]), (1, .row 5 (byteY.d L))], 2, .tuple #[])) (fun _ => True) := by
  refine x_sc tt_ok Try.func140 rfl rfl rfl (by cases used <;> rfl) (fun u _ => ?_)
  cases used
  · refine x_vc tt_ok ?_
    refine xl_eqpNil rfl rfl rfl rfl (by kernel_rfl) rfl ?_
    refine xl_go tt_ok ?_
    refine x_ift rfl ?_
    refine xl_toUnsafe rfl rfl rfl rfl Try.underlying137 Try.underlying203 (by kernel_rfl) rfl rfl rfl ?_
    refine xl_go tt_ok ?_
    refine xl_extern1 rfl rfl rfl rfl rfl noEscape_run rfl ?_
    refine xl_go tt_ok ?_
    refine xl_fromUnsafe (n := 2) rfl rfl rfl rfl Try.underlying203 Try.underlying137 (by kernel_rfl) rfl rfl rfl (by kernel_rfl) ?_
    refine xl_go tt_ok ?_
    exact ⟨(), [], [], rfl, rfl, .of rfl rfl rfl rfl rfl rfl, of_decide_eq_true rfl, trivial⟩
  · refine x_vc tt_ok ?_
    refine xl_eqpSome rfl rfl rfl rfl (by kernel_rfl) rfl ?_
    refine xl_go tt_ok ?_
    refine x_iff rfl ?_
    refine xl_neqSelf rfl rfl rfl rfl Try.underlying137 (by kernel_rfl) rfl rfl ?_
    refine xl_go tt_ok ?_
    refine x_iff rfl ?_
    exact ⟨(), [], [], rfl, rfl, .of rfl rfl rfl rfl rfl rfl, of_decide_eq_true rfl, trivial⟩
theorem bool_cases {P : Bool → Prop} (h : P true) (h' : P false) : ∀ b, P b
  | true => h
  | false => h'
set_option maxRecDepth 100000 in
theorem writeByte_sc (used : Bool) (L : List UInt8) (x : UInt8) (hL : L.length + 1 ≤ 140737488355328) :
    SC Try.prog 103 (fun _ => True) 2 [(0, .box 139 [bAddr used, .r 1]), (1, .row 5 (byteY.d L))] [.p 0 0, .v (.int .u8 (x.toNat : Int))]
      (fun _ : Unit => ([(0, .box 139 [.p 0 0, .r 2]), (2, .row 5 (byteY.d (L ++ [x])))], 3, .nilIface)) (fun _ => True) := by
  refine x_sc tt_ok Try.func103 rfl rfl rfl (by cases used <;> rfl) (fun u _ => ?_)
  refine x_vc tt_ok ?_
  refine xl_callSC (copyCheck_sc used L) (fun _ _ _ _ => trivial) trivial [0, 1] rfl rfl rfl rfl fn140 rfl rfl rfl rfl rfl (by cases used <;> rfl) (by cases used <;> rfl) (fun _ => rfl) (fun _ u1 hu1 _ => ?_)
  refine xl_go tt_ok ?_
  refine xl_push tt_ok byteY L x 1 (cs := [.int .u8 (x.toNat : Int)]) rfl rfl rfl rfl rfl rfl rfl rfl rfl rfl rfl rfl (by kernel_rfl) rfl rfl rfl rfl rfl (fun n hn => by cases hn; decide) rfl rfl rfl (by omega) (by omega) ?_
  refine xl_go tt_ok ?_
  exact ⟨(), [], [_], rfl, rfl, .of rfl rfl rfl rfl rfl rfl, of_decide_eq_true rfl, trivial⟩
set_option maxRecDepth 100000 in
theorem writeString_sc (used : Bool) (L : List UInt8) (x : ByteArray) (hL : L.length + x.size ≤ 140737488355328) :
    SC Try.prog 105 (fun _ => True) 2 [(0, .box 139 [bAddr used, .r 1]), (1, .row 5 (byteY.d L))] [.p 0 0, .v (.string x)]
      (fun _ : Unit => ([(0, .box 139 [.p 0 0, .r 2]), (2, .row 5 (byteY.d (L ++ x.data.toList)))], 3, .tuple #[.int .i64 x.size, .nilIface])) (fun _ => True) := by
  refine x_sc tt_ok Try.func105 rfl rfl rfl (by cases used <;> rfl) (fun u _ => ?_)
  refine x_vc tt_ok ?_
  refine xl_callSC (copyCheck_sc used L) (fun _ _ _ _ => trivial) trivial [0, 1] rfl rfl rfl rfl fn140 rfl rfl rfl rfl rfl (by cases used <;> rfl) (by cases used <;> rfl) (fun _ => rfl) (fun _ u1 hu1 _ => ?_)
  refine xl_go tt_ok ?_
  refine xl_appStr tt_ok L rfl rfl rfl rfl rfl rfl rfl (by kernel_rfl) rfl rfl rfl rfl hL ?_
  refine xl_go tt_ok ?_
  exact ⟨(), [], [_, _], rfl, rfl, .of rfl rfl rfl rfl rfl rfl, of_decide_eq_true rfl, trivial⟩
set_option maxRecDepth 100000 in
theorem len_sc (used : Bool) (L : List UInt8) : SC Try.prog 106 (fun _ => True) 2 [(0, .box 139 [bAddr used, .r 1]), (1, .row 5 (byteY.d L))] [.p 0 0]
      (fun _ : Unit => ([(0, .box 139 [bAddr used, .r 1]), (1, .row 5 (byteY.d L))], 2, .int .i64 L.length)) (fun _ => True) := by
  refine x_sc tt_ok Try.func106 rfl rfl rfl (by cases used <;> rfl) (fun u _ => ?_)
  refine x_vc tt_ok ?_
  cases used
  · exact ⟨(), [], [_], rfl, rfl, .of rfl rfl rfl rfl rfl rfl, of_decide_eq_true rfl, trivial⟩
  · exact ⟨(), [], [_], rfl, rfl, .of rfl rfl rfl rfl rfl rfl, of_decide_eq_true rfl, trivial⟩
set_option maxRecDepth 100000 in
theorem lenNil_sc : SC Try.prog 106 (fun _ => True) 1 [(0, .box 139 [.v (.pointer none), .v (.slice none 0 0)])] [.p 0 0]
      (fun _ : Unit => ([(0, .box 139 [.v (.pointer none), .v (.slice none 0 0)])], 1, .int .i64 0)) (fun _ => True) := by
  refine x_sc tt_ok Try.func106 rfl rfl rfl rfl (fun u _ => ?_)
  refine x_vc tt_ok ?_
  exact ⟨(), [], [_], rfl, rfl, .of rfl rfl rfl rfl rfl rfl, of_decide_eq_true rfl, trivial⟩
set_option maxRecDepth 100000 in
theorem stringNil_sc : SC Try.prog 107 (fun _ => True) 1 [(0, .box 139 [.v (.pointer none), .v (.slice none 0 0)])] [.p 0 0]
      (fun _ : Unit => ([], 1, .string ⟨#[]⟩)) (fun _ => True) := by
  refine x_sc tt_ok Try.func107 rfl rfl rfl rfl (fun u _ => ?_)
  refine x_vc tt_ok ?_
  refine x_drawA mix ?_
  refine xa_phase tt_ok (fuel := 2) [0, 1, 2, 3, 4, 5, 6, 7, 8, 9] rfl (by kernel_rfl) (by kernel_rfl) (by kernel_rfl) (by kernel_rfl) (xd_go tt_ok ?_)
  refine xd_sdNil rfl rfl rfl rfl rfl (xd_go tt_ok ?_)
  refine xa_one 10 (by kernel_rfl) rfl ?_
  refine xl_usNone rfl rfl rfl rfl rfl rfl (xl_go tt_ok ?_)
  refine xa_one 11 (by kernel_rfl) rfl (xl_go tt_ok ?_)
  refine xa_done (by kernel_rfl) rfl ?_
  exact ⟨(), [], [_], rfl, rfl, .of rfl rfl rfl rfl rfl rfl, of_decide_eq_true rfl, trivial⟩
set_option maxRecDepth 100000 in
theorem string_sc (used : Bool) (L : List UInt8) (hL : L ≠ []) : SC Try.prog 107 (fun _ => True) 2 [(0, .box 139 [bAddr used, .r 1]), (1, .row 5 (byteY.d L))] [.p 0 0]
      (fun _ : Unit => ([], 2, .string ⟨L.toArray⟩)) (fun _ => True) := by
  refine x_sc tt_ok Try.func107 rfl rfl rfl (by cases used <;> rfl) (fun u _ => ?_)
  refine x_vc tt_ok ?_
  refine x_drawA mix ?_
  refine xa_phase tt_ok (fuel := 2) [0, 1, 2, 3, 4, 5, 6, 7, 8, 9] rfl (by kernel_rfl) (by kernel_rfl) (by kernel_rfl) (by kernel_rfl) (xd_go tt_ok ?_)
  refine xd_sdRow byteY L rfl rfl rfl rfl rfl rfl hL (xd_go tt_ok ?_)
  refine xa_one 10 (by kernel_rfl) rfl ?_
  refine xl_usRow L rfl rfl rfl rfl rfl rfl rfl hL Try.underlying190 (by kernel_rfl) (xl_go tt_ok ?_)
  refine xa_one 11 (by kernel_rfl) rfl (xl_go tt_ok ?_)
  refine xa_done (by kernel_rfl) rfl ?_
  exact ⟨(), [], [_], rfl, rfl, .of rfl rfl rfl rfl rfl rfl, of_decide_eq_true rfl, trivial⟩
end Go.Proofs.Ytdonomneofdhfaa
namespace Go.Lx
abbrev Bs := List Int
def letter (c : Int) : Bool := (decide (97 ≤ c) && decide (c ≤ 122)) || (decide (65 ≤ c) && decide (c ≤ 90)) || decide (c = 95)
def digit (c : Int) : Bool := decide (48 ≤ c) && decide (c ≤ 57)
def white (c : Int) : Bool := decide (c = 32) || decide (c = 9) || decide (c = 11) || decide (c = 12)
def sign (c : Int) : Bool := decide (c = 43) || decide (c = 45)
def expo (c : Int) : Bool := decide (c = 101) || decide (c = 69) || decide (c = 112) || decide (c = 80)
def alnum (c : Int) : Bool := letter c || digit c
def okc (c : Int) : Bool := alnum c || decide (c = 46)
def run (p : Int → Bool) : Bs → Nat
  | [] => 0
  | c :: r => match p c with
    | true => run p r + 1
    | false => 0
def wordN : Bs → Nat
  | [] => 0
  | c :: r => match letter c with
    | true => run alnum r + 1
    | false => 0
def isWord : Bs → Bool
  | [] => false
  | c :: r => letter c && r.all alnum
theorem all_take_run (p : Int → Bool) : ∀ (l : Bs) (m : Nat), m ≤ l.length → ((l.take m).all p = true ↔ m ≤ run p l)
  | [], m, h => by simp at h; subst h; simp [run]
  | c :: r, 0, _ => by simp
  | c :: r, m + 1, h => by
    simp only [List.length_cons, Nat.add_le_add_iff_right] at h
    have ih := all_take_run p r m h
    simp only [List.take_succ_cons, List.all_cons, run, Bool.and_eq_true]
    cases hp : p c with
    | true => simp [ih]
    | false => simp
theorem run_le (p : Int → Bool) : ∀ l : Bs, run p l ≤ l.length
  | [] => Nat.le_refl _
  | c :: r => by
    have := run_le p r
    simp only [run, List.length_cons]
    split <;> omega
theorem isWord_take {l : Bs} {m : Nat} (h : m ≤ l.length) : isWord (l.take m) = true ↔ 1 ≤ m ∧ m ≤ wordN l := by
  cases l with
  | nil => simp at h; subst h; simp [isWord]
  | cons c r =>
    cases m with
    | zero => simp [isWord]
    | succ m =>
      simp only [List.length_cons, Nat.add_le_add_iff_right] at h
      simp only [List.take_succ_cons, isWord, wordN, Bool.and_eq_true, all_take_run alnum r m h]
      cases letter c with
      | true => simp
      | false => simp
theorem wordN_le (l : Bs) : wordN l ≤ l.length := by
  cases l with
  | nil => exact Nat.le_refl _
  | cons c r =>
    have := run_le alnum r
    simp only [wordN, List.length_cons]
    split <;> omega
def okp (a b : Int) : Bool := okc b || (sign b && expo a)
def runP : Int → Bs → Nat
  | _, [] => 0
  | a, b :: r => match okp a b with
    | true => runP b r + 1
    | false => 0
def allP : Int → Bs → Bool
  | _, [] => true
  | a, b :: r => okp a b && allP b r
theorem allP_take : ∀ (l : Bs) (a : Int) (m : Nat), m ≤ l.length → (allP a (l.take m) = true ↔ m ≤ runP a l)
  | [], a, m, h => by simp at h; subst h; simp [runP, allP]
  | c :: r, a, 0, _ => by simp [allP]
  | c :: r, a, m + 1, h => by
    simp only [List.length_cons, Nat.add_le_add_iff_right] at h
    have ih := allP_take r c m h
    simp only [List.take_succ_cons, allP, runP, Bool.and_eq_true]
    cases okp a c with
    | true => simp [ih]
    | false => simp
theorem runP_le : ∀ (l : Bs) (a : Int), runP a l ≤ l.length
  | [], _ => Nat.le_refl _
  | c :: r, a => by
    have := runP_le r c
    simp only [runP, List.length_cons]
    split <;> omega
def numN : Bs → Nat
  | [] => 0
  | c :: r => match digit c with
    | true => runP c r + 1
    | false => match decide (c = 46), r with
      | true, d :: r' => match digit d with
        | true => runP d r' + 2
        | false => 0
      | _, _ => 0
def isNum : Bs → Bool
  | [] => false
  | c :: r => match digit c with
    | true => allP c r
    | false => match decide (c = 46), r with
      | true, d :: r' => digit d && allP d r'
      | _, _ => false
def numS : Bs → Nat
  | [] => 0
  | c :: _ => match digit c with
    | true => 1
    | false => 2
theorem numN_le (l : Bs) : numN l ≤ l.length := by
  match l with
  | [] => exact Nat.le_refl _
  | [c] =>
    simp only [numN, runP, List.length_cons, List.length_nil]
    cases digit c with
    | true => simp
    | false => cases decide (c = 46) <;> simp
  | c :: d :: r =>
    have h1 := runP_le (d :: r) c
    have h2 := runP_le r d
    simp only [List.length_cons] at h1 ⊢
    simp only [numN]
    cases digit c with
    | true => simp only; omega
    | false =>
      cases decide (c = 46) with
      | false => simp
      | true =>
        show (match digit d with
          | true => runP d r + 2
          | false => 0) ≤ _
        split
        · show runP d r + 2 ≤ r.length + 1 + 1
          omega
        · exact Nat.zero_le _
theorem isNum_take {l : Bs} {m : Nat} (h : m ≤ l.length) : isNum (l.take m) = true ↔ 0 < numN l ∧ numS l ≤ m ∧ m ≤ numN l := by
  match l, m, h with
  | [], m, h => simp at h; subst h; simp [isNum, numN]
  | c :: r, 0, _ =>
    simp only [List.take_zero, isNum, numS]
    constructor
    · intro h; cases h
    · rintro ⟨_, h, _⟩; split at h <;> omega
  | [c], m + 1, h =>
    simp at h; subst h
    simp only [List.take_succ_cons, List.take_zero, isNum, numN, numS, allP, runP]
    cases digit c with
    | true => simp
    | false => cases decide (c = 46) <;> simp
  | c :: d :: r, 1, h =>
    simp only [List.take_succ_cons, List.take_zero, isNum, numN, numS, allP]
    cases hd : digit c with
    | true => simp
    | false =>
      cases decide (c = 46) with
      | true => cases digit d <;> simp
      | false => simp
  | c :: d :: r, m + 2, h =>
    simp only [List.length_cons, Nat.add_le_add_iff_right] at h
    have h1 := allP_take (d :: r) c (m + 1) (by simp; omega)
    have h2 := allP_take r d m h
    simp only [List.take_succ_cons] at h1 ⊢
    simp only [isNum, numN, numS]
    cases digit c with
    | true => simp only [h1]; omega
    | false =>
      cases decide (c = 46) with
      | true =>
        simp only
        cases digit d with
        | true => simp only [Bool.true_and, h2]; omega
        | false => simp
      | false => simp
def bodyN (q : Int) : Bs → Nat
  | [] => 0
  | [c] => match decide (c = q) && decide (c ≠ 10) with
    | true => 1
    | false => 0
  | c :: d :: r => match decide (c = 10) with
    | true => 0
    | false => match decide (c = q) with
      | true => 1
      | false => match decide (c = 92) with
        | true => match decide (d = 10), bodyN q r with
          | false, n + 1 => n + 3
          | _, _ => 0
        | false => match bodyN q (d :: r) with
          | 0 => 0
          | n + 1 => n + 2
def pieces (q : Int) : Bs → Bool
  | [] => true
  | [c] => !(decide (c = q) || decide (c = 10)) && !decide (c = 92)
  | c :: d :: r => match decide (c = q) || decide (c = 10) with
    | true => false
    | false => match decide (c = 92) with
      | true => !decide (d = 10) && pieces q r
      | false => pieces q (d :: r)
theorem bodyN_le (q : Int) : ∀ l : Bs, bodyN q l ≤ l.length
  | [] => Nat.le_refl _
  | [c] => by
    simp only [bodyN, List.length_cons, List.length_nil]
    split <;> omega
  | c :: d :: r => by
    have h1 := bodyN_le q r
    have h2 := bodyN_le q (d :: r)
    simp only [List.length_cons] at h2 ⊢
    unfold bodyN
    split
    · omega
    · split
      · omega
      · split
        · split <;> omega
        · split <;> omega
theorem body_take (q : Int) (hq : q ≠ 92) (hq2 : q ≠ 10) : ∀ (l : Bs) (m : Nat), m < l.length → ((pieces q (l.take m) = true ∧ l[m]? = some q) ↔ bodyN q l = m + 1)
  | [], m, h => by simp at h
  | [c], m, h => by
    simp at h; subst h
    simp only [List.take_zero, pieces, bodyN, List.getElem?_cons_zero, Option.some.injEq, true_and]
    by_cases hc : c = q
    · subst hc; simp [hq2]
    · simp [hc]
  | c :: d :: r, 0, h => by
    simp only [List.take_zero, pieces, bodyN, List.getElem?_cons_zero, Option.some.injEq, true_and, Nat.zero_add]
    by_cases h10 : c = 10
    · subst h10
      simp only [decide_true]
      constructor
      · intro hh; exact absurd hh.symm hq2
      · intro hh; cases hh
    · rw [decide_eq_false h10]
      by_cases hc : c = q
      · subst hc; simp
      · rw [decide_eq_false hc]
        constructor
        · intro hh; exact absurd hh hc
        · intro hh
          simp only at hh
          split at hh
          · split at hh <;> omega
          · split at hh <;> omega
  | c :: d :: r, 1, h => by
    simp only [List.take_succ_cons, List.take_zero, pieces, List.getElem?_cons_succ, List.getElem?_cons_zero, Option.some.injEq]
    have ih := body_take q hq hq2 (d :: r) 0 (by simp)
    simp only [List.take_zero, pieces, List.getElem?_cons_zero, Option.some.injEq, true_and, Nat.zero_add] at ih
    unfold bodyN
    by_cases h10 : c = 10
    · subst h10; simp
    · rw [decide_eq_false h10]
      by_cases hc : c = q
      · subst hc; simp
      · rw [decide_eq_false hc]
        by_cases h92 : c = 92
        · rw [decide_eq_true h92]
          simp only [Bool.or_self, Bool.not_false, Bool.not_true, Bool.and_false, Bool.false_eq_true, false_and, false_iff]
          split <;> omega
        · rw [decide_eq_false h92]
          simp only [Bool.or_self, Bool.not_false, Bool.and_self, true_and, ih]
          split <;> omega
  | c :: d :: r, m + 2, h => by
    simp only [List.length_cons, Nat.add_lt_add_iff_right] at h
    have ih1 := body_take q hq hq2 (d :: r) (m + 1) (by simp; omega)
    simp only [List.take_succ_cons, List.getElem?_cons_succ] at ih1 ⊢
    unfold bodyN
    cases m with
    | zero =>
      have ih2 := body_take q hq hq2 r 0 h
      simp only [List.take_zero, pieces, true_and] at ih1 ih2 ⊢
      by_cases h10 : c = 10
      · subst h10; simp
      · rw [decide_eq_false h10]
        by_cases hc : c = q
        · subst hc; simp
        · rw [decide_eq_false hc]
          by_cases h92 : c = 92
          · rw [decide_eq_true h92]
            simp only [Bool.or_self, Bool.and_true]
            by_cases hd : d = 10
            · rw [decide_eq_true hd]; simp
            · rw [decide_eq_false hd]
              simp only [Bool.not_false, true_and, ih2]
              split
              · rename_i n _ hn; rw [hn]; omega
              · rename_i hn
                constructor
                · intro h5; exact absurd h5 (by intro h6; exact hn _ rfl h6)
                · intro h5; cases h5
          · rw [decide_eq_false h92]
            simp only [Bool.or_self, ih1]
            split <;> omega
    | succ m =>
      have ih2 := body_take q hq hq2 r (m + 1) h
      simp only [pieces]
      by_cases h10 : c = 10
      · subst h10; simp
      · rw [decide_eq_false h10]
        by_cases hc : c = q
        · subst hc; simp
        · rw [decide_eq_false hc]
          by_cases h92 : c = 92
          · rw [decide_eq_true h92]
            simp only [Bool.or_self]
            by_cases hd : d = 10
            · rw [decide_eq_true hd]; simp
            · rw [decide_eq_false hd]
              simp only [Bool.not_false, Bool.true_and, ih2]
              split
              · rename_i n _ hn; rw [hn]; omega
              · rename_i hn
                constructor
                · intro h5; exact absurd h5 (by intro h6; exact hn _ rfl h6)
                · intro h5; cases h5
          · rw [decide_eq_false h92]
            simp only [Bool.or_self]
            rw [ih1]
            split <;> omega
def punS : List Bs := [[91], [93], [40], [41], [123], [125], [46], [45, 62], [43, 43], [45, 45], [38], [42], [43], [45], [126], [33], [47], [37], [60, 60], [62, 62], [60], [62], [60, 61], [62, 61], [61, 61], [33, 61], [94], [124], [38, 38], [124, 124], [63], [58], [59], [46, 46, 46], [61], [42, 61], [47, 61], [37, 61], [43, 61], [45, 61], [60, 60, 61], [62, 62, 61], [38, 61], [94, 61], [124, 61], [44], [35], [35, 35], [60, 58], [58, 62], [60, 37], [37, 62], [37, 58], [37, 58, 37, 58]]
def isPun (t : Bs) : Bool := punS.contains t
def punDown : Nat → Bs → Nat
  | 0, _ => 0
  | n + 1, l => match isPun (l.take (n + 1)) with
    | true => n + 1
    | false => punDown n l
def punN (l : Bs) : Nat := punDown (min 4 l.length) l
def quoteB (c : Int) : Bool := decide (c = 39) || decide (c = 34)
def noPun (c : Int) : Bool := alnum c || quoteB c || decide (c = 10) || white c || decide (c = 92)
theorem pun_facts : ∀ t ∈ punS, (1 ≤ t.length ∧ t.length ≤ 4) ∧ t.all (fun c => !noPun c) = true ∧ (t.head? = some 46 → t.length = 1 ∨ t[1]? = some 46) := by decide
theorem isPun_mem {t : Bs} : isPun t = true ↔ t ∈ punS := by unfold isPun; simp
theorem punDown_le : ∀ (n : Nat) (l : Bs), punDown n l ≤ n
  | 0, _ => Nat.le_refl _
  | n + 1, l => by
    have := punDown_le n l
    simp only [punDown]; split <;> omega
theorem punDown_is : ∀ (n : Nat) (l : Bs), 0 < punDown n l → isPun (l.take (punDown n l)) = true
  | 0, _, h => by cases h
  | n + 1, l, h => by
    have ih := punDown_is n l
    simp only [punDown] at h ⊢
    split
    · assumption
    · rename_i hh; rw [hh] at h; exact ih h
theorem punDown_max : ∀ (n : Nat) (l : Bs) (m : Nat), m ≤ n → isPun (l.take m) = true → m ≤ punDown n l
  | 0, _, m, h, _ => h
  | n + 1, l, m, h, hp => by
    simp only [punDown]
    split
    · exact h
    · rename_i hh
      have hne : m ≠ n + 1 := fun e => by subst e; rw [hp] at hh; cases hh
      exact punDown_max n l m (by omega) hp
theorem punN_is {l : Bs} (h : 0 < punN l) : isPun (l.take (punN l)) = true := punDown_is _ l h
theorem punN_le (l : Bs) : punN l ≤ l.length := Nat.le_trans (punDown_le _ l) (Nat.min_le_right ..)
theorem punN_max {l : Bs} {m : Nat} (hm : m ≤ l.length) (h : isPun (l.take m) = true) : m ≤ punN l := by
  refine punDown_max _ l m ?_ h
  have := (pun_facts _ (isPun_mem.1 h)).1
  rw [List.length_take] at this
  omega
def prefN : Bs → Nat
  | [] => 0
  | c :: r => match decide (c = 117) && decide (r.head? = some 56) && decide (r[1]? = some 34) with
    | true => 2
    | false => match decide (c = 117) || decide (c = 85) || decide (c = 76) with
      | true => 1
      | false => 0
def litQ (l : Bs) : Int × Nat :=
  match l.drop (prefN l) with
  | [] => (0, 0)
  | q :: r =>
    if q = 34 then (match bodyN 34 r with
      | 0 => (0, 0)
      | n + 1 => (4, prefN l + 1 + (n + 1)))
    else if q = 39 then (match bodyN 39 r with
      | 0 => (0, 0)
      | 1 => (0, 0)
      | n + 2 => (3, prefN l + 1 + (n + 2)))
    else (0, 0)
def litAt (q : Int) (p t : Bs) : Bool :=
  decide (p.length + 2 ≤ t.length) && (decide (t.take p.length = p) && (decide (t[p.length]? = some q) && (decide (t[t.length - 1]? = some q) && pieces q ((t.take (t.length - 1)).drop (p.length + 1)))))
def isLit (q : Int) : List Bs → Bs → Bool
  | [], _ => false
  | p :: ps, t => match litAt q p t with
    | true => decide (q = 34) || decide (p.length + 2 < t.length)
    | false => isLit q ps t
def pre39 : List Bs := [[], [117], [85], [76]]
def pre34 : List Bs := [[], [117, 56], [117], [85], [76]]
def kindR (t : Bs) : Int :=
  if t = [10] then 9 else if isWord t then 1 else if isNum t then 2 else if isLit 39 pre39 t then 3 else if isLit 34 pre34 t then 4 else if isPun t then 5 else 0
theorem litAt_take {q : Int} {p l : Bs} {m : Nat} (hm : m ≤ l.length) (hq : q ≠ 92) (hq2 : q ≠ 10) :
    litAt q p (l.take m) = true ↔ l.take p.length = p ∧ l[p.length]? = some q ∧ 0 < bodyN q (l.drop (p.length + 1)) ∧ m = p.length + 1 + bodyN q (l.drop (p.length + 1)) := by
  have hl : (l.take m).length = m := by rw [List.length_take]; omega
  unfold litAt
  simp only [Bool.and_eq_true, decide_eq_true_eq, hl]
  constructor
  · rintro ⟨h1, h2, h3, h4, h5⟩
    rw [List.take_take, Nat.min_eq_left (by omega)] at h2
    rw [List.getElem?_take, if_pos (by omega)] at h3 h4
    have e : ((l.take m).take (m - 1)).drop (p.length + 1) = (l.drop (p.length + 1)).take (m - p.length - 2) := by
      rw [List.take_take, Nat.min_eq_left (by omega), List.drop_take]
      congr 1; omega
    rw [e] at h5
    have e2 : (l.drop (p.length + 1))[m - p.length - 2]? = some q := by
      rw [List.getElem?_drop, ← h4]; congr 1; omega
    have := (body_take q hq hq2 (l.drop (p.length + 1)) (m - p.length - 2) (by rw [List.length_drop]; omega)).1 ⟨h5, e2⟩
    exact ⟨h2, h3, by omega, by omega⟩
  · rintro ⟨h1, h2, h3, h4⟩
    have hb := bodyN_le q (l.drop (p.length + 1))
    rw [List.length_drop] at hb
    have := (body_take q hq hq2 (l.drop (p.length + 1)) (m - p.length - 2) (by rw [List.length_drop]; omega)).2 (by omega)
    refine ⟨by omega, ?_, ?_, ?_, ?_⟩
    · rw [List.take_take, Nat.min_eq_left (by omega)]; exact h1
    · rw [List.getElem?_take, if_pos (by omega)]; exact h2
    · rw [List.getElem?_take, if_pos (by omega), ← this.2, List.getElem?_drop]; congr 1; omega
    · have e : ((l.take m).take (m - 1)).drop (p.length + 1) = (l.drop (p.length + 1)).take (m - p.length - 2) := by
        rw [List.take_take, Nat.min_eq_left (by omega), List.drop_take]
        congr 1; omega
      rw [e]; exact this.1
theorem quote_getD {q c : Int} (h : q = 39 ∨ q = 34) (e : c = q) : quoteB c = true := by subst e; rcases h with rfl | rfl <;> rfl
theorem pref_of {q : Int} (hq : q = 39 ∨ q = 34) {p l : Bs} (hp : p ∈ pre34) (hp2 : p = [117, 56] → q = 34) (h1 : l.take p.length = p) (h2 : l[p.length]? = some q) : prefN l = p.length := by
  simp only [pre34, List.mem_cons, List.not_mem_nil, or_false] at hp
  match l, h1, h2 with
  | [], h1, h2 => simp at h2
  | c :: r, h1, h2 =>
    rcases hp with rfl | rfl | rfl | rfl | rfl
    · simp only [List.length_nil, List.getElem?_cons_zero, Option.some.injEq] at h2
      subst h2
      rcases hq with rfl | rfl <;> rfl
    · match r, h1, h2 with
      | [], h1, h2 => simp at h2
      | [d], h1, h2 => simp at h2
      | d :: e :: r, h1, h2 =>
        have := hp2 rfl
        subst this
        have e2 : e = 34 := by simpa using h2
        have e1 : c = 117 ∧ d = 56 := by simpa using h1
        rw [e2, e1.1, e1.2]; rfl
    all_goals
      simp only [List.length_cons, List.length_nil, Nat.zero_add, List.take_succ_cons, List.take_zero, List.cons.injEq, and_true] at h1
      subst h1
      simp only [List.length_cons, List.length_nil, Nat.zero_add, List.getElem?_cons_succ] at h2
      have h3 : ¬ r.head? = some 56 := by
        intro hh
        rw [List.head?_eq_getElem?, h2] at hh
        rcases hq with rfl | rfl <;> cases hh
      simp [prefN, h3]
theorem pref_mem (l : Bs) : ∃ p ∈ pre34, p.length = prefN l ∧ (∀ q, l[prefN l]? = some q → (q = 39 ∨ q = 34) → l.take (prefN l) = p ∧ (p = [117, 56] → q = 34)) := by
  match l with
  | [] => exact ⟨[], by simp [pre34], rfl, fun q h => by simp [prefN] at h⟩
  | c :: r =>
    simp only [prefN]
    split
    · rename_i h
      simp only [Bool.and_eq_true, decide_eq_true_eq] at h
      obtain ⟨⟨rfl, h2⟩, h3⟩ := h
      match r, h2, h3 with
      | [], h2, _ => simp at h2
      | [d], _, h3 => simp at h3
      | d :: e :: r, h2, h3 =>
        simp at h2 h3
        subst h2 h3
        refine ⟨[117, 56], by simp [pre34], rfl, fun q h hq => ⟨rfl, fun _ => ?_⟩⟩
        simp at h; exact h.symm
    · split
      · rename_i h
        simp only [Bool.or_eq_true, decide_eq_true_eq] at h
        refine ⟨[c], ?_, rfl, fun q _ _ => ⟨rfl, fun e => by cases e⟩⟩
        rcases h with (rfl | rfl) | rfl <;> simp [pre34]
      · exact ⟨[], by simp [pre34], rfl, fun q _ _ => ⟨rfl, fun e => by cases e⟩⟩
theorem isLit_take {q : Int} (hq : q = 39 ∨ q = 34) {l : Bs} {m : Nat} (hm : m ≤ l.length) : ∀ {ps : List Bs}, (∀ p ∈ ps, p ∈ pre34 ∧ (p = [117, 56] → q = 34)) →
    (isLit q ps (l.take m) = true ↔ (∃ p ∈ ps, l.take p.length = p ∧ p.length = prefN l) ∧ l[prefN l]? = some q ∧ 0 < bodyN q (l.drop (prefN l + 1)) ∧ m = prefN l + 1 + bodyN q (l.drop (prefN l + 1)) ∧ (q = 34 ∨ 1 < bodyN q (l.drop (prefN l + 1))))
  | [], _ => by simp [isLit]
  | p :: ps, hps => by
    have hq1 : q ≠ 92 := by rcases hq with rfl | rfl <;> decide
    have hq2 : q ≠ 10 := by rcases hq with rfl | rfl <;> decide
    have ih := isLit_take hq hm (ps := ps) (fun p' hp' => hps p' (List.mem_cons_of_mem _ hp'))
    have hl : (l.take m).length = m := by rw [List.length_take]; omega
    simp only [isLit]
    split
    · rename_i h
      rw [litAt_take hm hq1 hq2] at h
      obtain ⟨h1, h2, h3, h4⟩ := h
      obtain ⟨hp, hp2⟩ := hps p (List.mem_cons_self ..)
      have e := pref_of hq hp hp2 h1 h2
      rw [e]
      simp only [Bool.or_eq_true, decide_eq_true_eq, hl]
      constructor
      · intro h5
        refine ⟨⟨p, List.mem_cons_self .., h1, rfl⟩, h2, h3, h4, ?_⟩
        rcases h5 with h5 | h5
        · exact .inl h5
        · right; omega
      · rintro ⟨_, _, _, _, h5⟩
        rcases h5 with h5 | h5
        · exact .inl h5
        · right; omega
    · rename_i h
      rw [ih]
      constructor
      · rintro ⟨⟨p', hp', h1⟩, h2⟩
        exact ⟨⟨p', List.mem_cons_of_mem _ hp', h1⟩, h2⟩
      · rintro ⟨⟨p', hp', h1, h2⟩, h3⟩
        rcases List.mem_cons.1 hp' with rfl | hp'
        · exfalso
          rw [← h2] at h3
          have := (litAt_take (p := p') hm hq1 hq2).2 ⟨h1, h3.1, h3.2.1, h3.2.2.1⟩
          rw [this] at h; cases h
        · exact ⟨⟨p', hp', h1, h2⟩, h3⟩
theorem drop_cons_of {l : Bs} {k : Nat} {q : Int} (h : l[k]? = some q) : l.drop k = q :: l.drop (k + 1) := by
  obtain ⟨hk, rfl⟩ := List.getElem?_eq_some_iff.1 h
  exact List.drop_eq_getElem_cons hk
theorem drop_nil_of {l : Bs} {k : Nat} (h : l[k]? = none) : l.drop k = [] := List.drop_eq_nil_of_le (List.getElem?_eq_none_iff.1 h)
theorem lit39_take {l : Bs} {m : Nat} (hm : m ≤ l.length) : isLit 39 pre39 (l.take m) = true ↔ (litQ l).1 = 3 ∧ m = (litQ l).2 := by
  rw [isLit_take (.inl rfl) hm (by decide)]
  unfold litQ
  cases hd : l[prefN l]? with
  | none => rw [drop_nil_of hd]; simp
  | some q =>
    rw [drop_cons_of hd]
    simp only [Option.some.injEq]
    by_cases h34 : q = 34
    · subst h34
      simp only [if_true]
      constructor
      · rintro ⟨_, h, _⟩; cases h
      · rintro ⟨h, _⟩; split at h <;> cases h
    · rw [if_neg h34]
      by_cases h39 : q = 39
      · subst h39
        rw [if_pos rfl]
        constructor
        · rintro ⟨_, _, h1, h2, h3⟩
          have h3 : 1 < bodyN 39 (l.drop (prefN l + 1)) := by
            rcases h3 with h3 | h3
            · cases h3
            · exact h3
          split
          · omega
          · omega
          · rename_i n hn; exact ⟨rfl, by omega⟩
        · rintro ⟨h1, h2⟩
          split at h1
          · cases h1
          · cases h1
          · rename_i n hn
            rw [hn] at h2 ⊢
            simp only at h2
            obtain ⟨p, hp, e, hh⟩ := pref_mem l
            obtain ⟨e1, e2⟩ := hh 39 hd (.inl rfl)
            refine ⟨⟨p, ?_, by rw [e]; exact e1, e⟩, rfl, by omega, by omega, .inr (by omega)⟩
            simp only [pre34, List.mem_cons, List.not_mem_nil, or_false] at hp
            simp only [pre39, List.mem_cons, List.not_mem_nil, or_false]
            rcases hp with rfl | rfl | rfl | rfl | rfl
            · simp
            · have := e2 rfl; cases this
            · simp
            · simp
            · simp
      · rw [if_neg h39]
        constructor
        · rintro ⟨_, h, _⟩; exact absurd h h39
        · rintro ⟨h, _⟩; cases h
theorem lit34_take {l : Bs} {m : Nat} (hm : m ≤ l.length) : isLit 34 pre34 (l.take m) = true ↔ (litQ l).1 = 4 ∧ m = (litQ l).2 := by
  rw [isLit_take (.inr rfl) hm (by decide)]
  unfold litQ
  cases hd : l[prefN l]? with
  | none => rw [drop_nil_of hd]; simp
  | some q =>
    rw [drop_cons_of hd]
    simp only [Option.some.injEq]
    by_cases h34 : q = 34
    · subst h34
      simp only [if_true]
      constructor
      · rintro ⟨_, _, h1, h2, h3⟩
        split
        · omega
        · rename_i n hn; exact ⟨rfl, by omega⟩
      · rintro ⟨h1, h2⟩
        split at h1
        · cases h1
        · rename_i n hn
          rw [hn] at h2 ⊢
          simp only at h2
          obtain ⟨p, hp, e, hh⟩ := pref_mem l
          obtain ⟨e1, e2⟩ := hh 34 hd (.inr rfl)
          exact ⟨⟨p, hp, by rw [e]; exact e1, e⟩, by simp, by omega, by omega, by simp⟩
    · rw [if_neg h34]
      constructor
      · rintro ⟨_, h, _⟩; exact absurd h h34
      · rintro ⟨h, _⟩
        split at h
        · split at h <;> cases h
        · cases h
theorem litQ_facts (l : Bs) : ((litQ l).1 = 0 ∧ (litQ l).2 = 0) ∨ (((litQ l).1 = 3 ∨ (litQ l).1 = 4) ∧ 2 ≤ (litQ l).2 ∧ (litQ l).2 ≤ l.length ∧ prefN l + 2 ≤ (litQ l).2 ∧ ∃ q, (q = 39 ∨ q = 34) ∧ l[prefN l]? = some q) := by
  unfold litQ
  cases hd : l[prefN l]? with
  | none => rw [drop_nil_of hd]; exact .inl ⟨rfl, rfl⟩
  | some q =>
    rw [drop_cons_of hd]
    have hk := (List.getElem?_eq_some_iff.1 hd).1
    have hb := bodyN_le q (l.drop (prefN l + 1))
    rw [List.length_drop] at hb
    by_cases h34 : q = 34
    · subst h34
      simp only [if_true]
      split
      · exact .inl ⟨rfl, rfl⟩
      · rename_i n hn
        exact .inr ⟨.inr rfl, by show 2 ≤ prefN l + 1 + (n + 1); omega, by show prefN l + 1 + (n + 1) ≤ _; omega, by show _ ≤ prefN l + 1 + (n + 1); omega, 34, .inr rfl, rfl⟩
    · simp only [if_neg h34]
      by_cases h39 : q = 39
      · subst h39
        simp only [if_true]
        split
        · exact .inl ⟨rfl, rfl⟩
        · exact .inl ⟨rfl, rfl⟩
        · rename_i n hn
          exact .inr ⟨.inl rfl, by show 2 ≤ prefN l + 1 + (n + 2); omega, by show prefN l + 1 + (n + 2) ≤ _; omega, by show _ ≤ prefN l + 1 + (n + 2); omega, 39, .inl rfl, rfl⟩
      · simp only [if_neg h39]
        exact .inl (by simp)
def bestL (l : Bs) : Int × Nat :=
  if 0 < (litQ l).2 then litQ l else if 0 < wordN l then (1, wordN l) else if 0 < numN l then (2, numN l) else if 0 < punN l then (5, punN l) else (0, 0)
def bestG (l : Bs) : Int × Nat :=
  let a := if 0 < (litQ l).2 then litQ l else (0, 0)
  let b := if a.2 < wordN l then (1, wordN l) else a
  let c := if b.2 < numN l then (2, numN l) else b
  if c.2 < punN l then (5, punN l) else c
theorem letter_cases {c : Int} (h : letter c = true) : (97 ≤ c ∧ c ≤ 122) ∨ (65 ≤ c ∧ c ≤ 90) ∨ c = 95 := by
  unfold letter at h
  simp only [Bool.or_eq_true, Bool.and_eq_true, decide_eq_true_eq] at h
  omega
theorem digit_cases {c : Int} (h : digit c = true) : 48 ≤ c ∧ c ≤ 57 := by
  unfold digit at h
  simpa only [Bool.and_eq_true, decide_eq_true_eq] using h
theorem digit_of {c : Int} (h : 48 ≤ c ∧ c ≤ 57) : digit c = true := by
  unfold digit
  simpa only [Bool.and_eq_true, decide_eq_true_eq] using h
theorem not_letter {c : Int} (h : letter c = false) : ¬ ((97 ≤ c ∧ c ≤ 122) ∨ (65 ≤ c ∧ c ≤ 90) ∨ c = 95) := by
  unfold letter at h
  simp only [Bool.or_eq_false_iff, Bool.and_eq_false_iff, decide_eq_false_iff_not] at h
  omega
theorem not_digit {c : Int} (h : digit c = false) : ¬ (48 ≤ c ∧ c ≤ 57) := by
  unfold digit at h
  simp only [Bool.and_eq_false_iff, decide_eq_false_iff_not] at h
  omega
theorem wordN_head {l : Bs} (h : 0 < wordN l) : ∃ c r, l = c :: r ∧ letter c = true := by
  cases l with
  | nil => cases h
  | cons c r =>
    cases hc : letter c with
    | true => exact ⟨c, r, rfl, hc⟩
    | false => simp [wordN, hc] at h
theorem numN_head {l : Bs} (h : 0 < numN l) : ∃ c r, l = c :: r ∧ (digit c = true ∨ (c = 46 ∧ ∃ d r', r = d :: r' ∧ digit d = true ∧ 2 ≤ numN l)) := by
  cases l with
  | nil => cases h
  | cons c r =>
    refine ⟨c, r, rfl, ?_⟩
    cases hc : digit c with
    | true => exact .inl rfl
    | false =>
      right
      simp only [numN, hc] at h ⊢
      by_cases h46 : c = 46
      · rw [decide_eq_true h46] at h ⊢
        cases r with
        | nil => cases h
        | cons d r' =>
          simp only at h ⊢
          cases hd : digit d with
          | true => exact ⟨h46, d, r', rfl, hd, by simp⟩
          | false => rw [hd] at h; cases h
      · rw [decide_eq_false h46] at h
        simp at h
theorem punN_head {l : Bs} (h : 0 < punN l) : ∃ c r, l = c :: r ∧ noPun c = false ∧ (c = 46 → punN l = 1 ∨ r.head? = some 46) := by
  have h1 := punN_is h
  have h2 := pun_facts _ (isPun_mem.1 h1)
  cases l with
  | nil => simp at h2
  | cons c r =>
    obtain ⟨k, hk⟩ : ∃ k, punN (c :: r) = k + 1 := ⟨punN (c :: r) - 1, by omega⟩
    have hle := punN_le (c :: r)
    rw [hk] at h1 h2 hle ⊢
    simp only [List.length_cons, Nat.add_le_add_iff_right] at hle
    simp only [List.take_succ_cons, List.all_cons, Bool.and_eq_true, Bool.not_eq_true', List.head?_cons, Option.some.injEq, List.length_cons, List.length_take, List.getElem?_cons_succ] at h2
    refine ⟨c, r, rfl, h2.2.1.1, fun hc => ?_⟩
    rcases h2.2.2 hc with h3 | h3
    · left; omega
    · right
      rw [List.getElem?_take] at h3
      split at h3
      · rw [List.head?_eq_getElem?]; exact h3
      · cases h3
theorem prefN_head (c : Int) (r : Bs) : prefN (c :: r) = 0 ∨ ((c = 117 ∨ c = 85 ∨ c = 76) ∧ prefN (c :: r) ≤ 2 ∧ 1 ≤ prefN (c :: r)) := by
  simp only [prefN]
  split
  · rename_i h
    simp only [Bool.and_eq_true, decide_eq_true_eq] at h
    exact .inr ⟨.inl h.1.1, Nat.le_refl _, by omega⟩
  · split
    · rename_i h
      simp only [Bool.or_eq_true, decide_eq_true_eq] at h
      refine .inr ⟨?_, by omega, Nat.le_refl _⟩
      rcases h with (h | h) | h
      · exact .inl h
      · exact .inr (.inl h)
      · exact .inr (.inr h)
    · exact .inl rfl
theorem lit_head {l : Bs} (h : 0 < (litQ l).2) : ∃ c r, l = c :: r ∧ (quoteB c = true ∨ c = 117 ∨ c = 85 ∨ c = 76) := by
  rcases litQ_facts l with ⟨_, h0⟩ | ⟨_, _, _, _, q, hq, hl⟩
  · omega
  · cases l with
    | nil => simp at hl
    | cons c r =>
      refine ⟨c, r, rfl, ?_⟩
      rcases prefN_head c r with h1 | ⟨h1, _⟩
      · rw [h1] at hl
        simp at hl
        exact .inl (quote_getD hq hl)
      · exact .inr h1
theorem noPun_quote {c : Int} (h : quoteB c = true) : noPun c = true := by unfold noPun; rw [h]; simp
theorem noPun_letter {c : Int} (h : letter c = true) : noPun c = true := by unfold noPun alnum; rw [h]; simp
theorem noPun_digit {c : Int} (h : digit c = true) : noPun c = true := by unfold noPun alnum; rw [h]; simp
theorem quote_cases {c : Int} (h : quoteB c = true) : c = 39 ∨ c = 34 := by
  unfold quoteB at h
  simpa only [Bool.or_eq_true, decide_eq_true_eq] using h
theorem lit_num {l : Bs} (h : 0 < (litQ l).2) : numN l = 0 := by
  obtain ⟨c, r, rfl, hc⟩ := lit_head h
  rcases Nat.eq_zero_or_pos (numN (c :: r)) with h0 | h0
  · exact h0
  · obtain ⟨c', r', e, h1⟩ := numN_head h0
    cases e
    exfalso
    have hcc : c = 39 ∨ c = 34 ∨ c = 117 ∨ c = 85 ∨ c = 76 := by
      rcases hc with hc | hc
      · rcases quote_cases hc with hc | hc
        · exact .inl hc
        · exact .inr (.inl hc)
      · exact .inr (.inr hc)
    rcases h1 with h1 | ⟨h1, _⟩
    · have := digit_cases h1; omega
    · omega
theorem lit_pun {l : Bs} (h : 0 < (litQ l).2) : punN l = 0 := by
  obtain ⟨c, r, rfl, hc⟩ := lit_head h
  rcases Nat.eq_zero_or_pos (punN (c :: r)) with h0 | h0
  · exact h0
  · obtain ⟨c', r', e, h1, _⟩ := punN_head h0
    cases e
    exfalso
    have : noPun c = true := by
      rcases hc with hc | hc
      · exact noPun_quote hc
      · apply noPun_letter
        unfold letter
        simp only [Bool.or_eq_true, Bool.and_eq_true, decide_eq_true_eq]
        omega
    rw [this] at h1; cases h1
theorem word_num {l : Bs} (h : 0 < wordN l) : numN l = 0 := by
  obtain ⟨c, r, rfl, hc⟩ := wordN_head h
  rcases Nat.eq_zero_or_pos (numN (c :: r)) with h0 | h0
  · exact h0
  · obtain ⟨c', r', e, h1⟩ := numN_head h0
    cases e
    exfalso
    have := letter_cases hc
    rcases h1 with h1 | ⟨h1, _⟩
    · have := digit_cases h1; omega
    · omega
theorem word_pun {l : Bs} (h : 0 < wordN l) : punN l = 0 := by
  obtain ⟨c, r, rfl, hc⟩ := wordN_head h
  rcases Nat.eq_zero_or_pos (punN (c :: r)) with h0 | h0
  · exact h0
  · obtain ⟨c', r', e, h1, _⟩ := punN_head h0
    cases e
    rw [noPun_letter hc] at h1; cases h1
theorem num_pun {l : Bs} (h : 0 < numN l) : punN l < numN l := by
  obtain ⟨c, r, rfl, h1⟩ := numN_head h
  rcases Nat.eq_zero_or_pos (punN (c :: r)) with h0 | h0
  · omega
  · obtain ⟨c', r', e, h2, h3⟩ := punN_head h0
    cases e
    rcases h1 with h1 | ⟨h1, d, r', rfl, hd, h5⟩
    · rw [noPun_digit h1] at h2; cases h2
    · rcases h3 h1 with h4 | h4
      · omega
      · simp at h4
        subst h4
        cases hd
theorem lit_word {l : Bs} (h : 0 < (litQ l).2) : wordN l < (litQ l).2 := by
  rcases litQ_facts l with ⟨_, h0⟩ | ⟨_, h2, h3, h4, q, hq, hl⟩
  · omega
  · rcases Nat.lt_or_ge (prefN l) (wordN l) with hlt | hge
    · exfalso
      have := (isWord_take (l := l) (m := prefN l + 1) (by have := (List.getElem?_eq_some_iff.1 hl).1; omega)).2 ⟨by omega, hlt⟩
      have hk := (List.getElem?_eq_some_iff.1 hl).1
      have hm : q ∈ l.take (prefN l + 1) := by
        rw [List.take_add_one, hl]; simp
      have hall : ∀ x ∈ l.take (prefN l + 1), alnum x = true := by
        intro x hx
        cases l with
        | nil => simp at hx
        | cons c r =>
          simp only [List.take_succ_cons, isWord, Bool.and_eq_true, List.all_eq_true] at this hx
          rcases List.mem_cons.1 hx with rfl | hx
          · unfold alnum; rw [this.1]; rfl
          · exact this.2 x hx
      have := hall q hm
      rcases hq with rfl | rfl <;> cases this
    · omega
theorem bestG_eq (l : Bs) : bestG l = bestL l := by
  unfold bestG bestL
  by_cases h1 : 0 < (litQ l).2
  · have a1 := lit_num h1
    have a2 := lit_pun h1
    have a3 := lit_word h1
    simp only [if_pos h1, if_neg (show ¬ (litQ l).2 < wordN l by omega), a1, a2, Nat.not_lt_zero, if_false]
  · simp only [if_neg h1]
    by_cases h2 : 0 < wordN l
    · have a1 := word_num h2
      have a2 := word_pun h2
      simp only [if_pos h2, a1, a2, Nat.not_lt_zero, if_false]
    · simp only [if_neg h2]
      by_cases h3 : 0 < numN l
      · have := num_pun h3
        simp only [if_pos h3, if_neg (show ¬ numN l < punN l by omega)]
      · simp only [if_neg h3]
theorem bestL_le (l : Bs) : (bestL l).2 ≤ l.length := by
  unfold bestL
  have h1 := wordN_le l
  have h2 := numN_le l
  have h3 := punN_le l
  split
  · rcases litQ_facts l with ⟨_, h0⟩ | ⟨_, h2, h3, _⟩ <;> omega
  · split
    · exact h1
    · split
      · exact h2
      · split
        · exact h3
        · exact Nat.zero_le _
theorem bestL_zero (l : Bs) : (bestL l).1 = 0 ↔ (bestL l).2 = 0 := by
  unfold bestL
  split
  · rename_i h
    rcases litQ_facts l with ⟨_, h0⟩ | ⟨h1, h2, _⟩
    · omega
    · constructor
      · intro h3; rw [h3] at h1; omega
      · intro h3; omega
  · split
    · simp; omega
    · split
      · simp; omega
      · split
        · simp; omega
        · simp
theorem kindR_take {l : Bs} {m : Nat} (hm : m ≤ l.length) (hl : l.head? ≠ some 10) :
    (∀ k, kindR (l.take m) = k → k ≠ 0 → 0 < m ∧ m ≤ (bestL l).2) ∧ (0 < m → m = (bestL l).2 → kindR (l.take m) = (bestL l).1) := by
  have hno : ¬ l.take m = [10] := by
    intro h
    apply hl
    cases l with
    | nil => simp at h
    | cons c r =>
      cases m with
      | zero => simp at h
      | succ m => simp at h; rw [h.1]; rfl
  have w := isWord_take hm
  have n := isNum_take hm
  have q3 := lit39_take hm
  have q4 := lit34_take hm
  have pm := punN_max hm
  have lf := litQ_facts l
  unfold kindR
  rw [if_neg hno]
  constructor
  · intro k hk hk0
    unfold bestL
    split at hk
    · rename_i h
      have h1 := w.1 h
      split
      · have := lit_word (by assumption : 0 < (litQ l).2); omega
      · rw [if_pos (by omega)]; exact h1
    · split at hk
      · rename_i h
        have h1 := n.1 h
        have h2 : numS l ≥ 1 := by
          cases l with
          | nil => simp [numN] at h1
          | cons c r => simp only [numS]; split <;> omega
        split
        · have := lit_num (by assumption : 0 < (litQ l).2); omega
        · split
          · have := word_num (by assumption : 0 < wordN l); omega
          · rw [if_pos h1.1]; exact ⟨by omega, h1.2.2⟩
      · split at hk
        · rename_i h
          obtain ⟨h1, h2⟩ := q3.1 h
          have : 0 < (litQ l).2 := by rcases lf with ⟨h0, _⟩ | ⟨_, h0, _⟩ <;> omega
          rw [if_pos this]; exact ⟨by omega, by omega⟩
        · split at hk
          · rename_i h
            obtain ⟨h1, h2⟩ := q4.1 h
            have : 0 < (litQ l).2 := by rcases lf with ⟨h0, _⟩ | ⟨_, h0, _⟩ <;> omega
            rw [if_pos this]; exact ⟨by omega, by omega⟩
          · split at hk
            · rename_i h
              have h1 := pm h
              have h2 := (pun_facts _ (isPun_mem.1 h)).1
              rw [List.length_take] at h2
              split
              · have := lit_pun (by assumption : 0 < (litQ l).2); omega
              · split
                · have := word_pun (by assumption : 0 < wordN l); omega
                · split
                  · have := num_pun (by assumption : 0 < numN l); exact ⟨by omega, by show m ≤ numN l; omega⟩
                  · rw [if_pos (by omega)]; exact ⟨by omega, h1⟩
            · exact absurd hk.symm hk0
  · intro h0 e
    unfold bestL at e ⊢
    by_cases c1 : 0 < (litQ l).2
    · rw [if_pos c1] at e ⊢
      have a1 := lit_word c1
      have a2 := lit_num c1
      rw [if_neg (fun h => by have := w.1 h; omega), if_neg (fun h => by have := n.1 h; omega)]
      rcases lf with ⟨_, h⟩ | ⟨h, _⟩
      · omega
      · rcases h with h | h
        · rw [if_pos (q3.2 ⟨h, e⟩), h]
        · rw [if_neg (fun h' => by have := (q3.1 h').1; omega), if_pos (q4.2 ⟨h, e⟩), h]
    · rw [if_neg c1] at e ⊢
      by_cases c2 : 0 < wordN l
      · rw [if_pos c2] at e ⊢
        rw [if_pos (w.2 ⟨by omega, by have : m = wordN l := e; omega⟩)]
      · rw [if_neg c2] at e ⊢
        rw [if_neg (fun h => by have := w.1 h; omega)]
        by_cases c3 : 0 < numN l
        · rw [if_pos c3] at e ⊢
          have e : m = numN l := e
          rw [if_pos (n.2 ⟨c3, ?_, by omega⟩)]
          obtain ⟨c, r, rfl, h1⟩ := numN_head c3
          simp only [numS]
          split
          · omega
          · rename_i hd
            rcases h1 with h1 | ⟨_, _, _, _, _, h5⟩
            · rw [h1] at hd; cases hd
            · omega
        · rw [if_neg c3] at e ⊢
          rw [if_neg (fun h => by have := (n.1 h).1; omega)]
          have hq0 : (litQ l).2 = 0 := by omega
          rw [if_neg (fun h => by have := (q3.1 h).2; omega), if_neg (fun h => by have := (q4.1 h).2; omega)]
          by_cases c4 : 0 < punN l
          · rw [if_pos c4] at e ⊢
            have e : m = punN l := e
            rw [if_pos (by rw [e]; exact punN_is c4)]
          · rw [if_neg c4] at e
            have e : m = 0 := e
            omega
def downR : Nat → Bs → Int × Nat
  | 0, _ => (0, 0)
  | n + 1, l => if 0 < kindR (l.take (n + 1)) then (kindR (l.take (n + 1)), n + 1) else downR n l
theorem kindR_pos (t : Bs) : 0 ≤ kindR t := by
  unfold kindR
  (repeat' split) <;> decide
theorem downR_eq {l : Bs} (hl : l.head? ≠ some 10) : ∀ {n : Nat}, n ≤ l.length → (bestL l).2 ≤ n → downR n l = bestL l
  | 0, _, h => by
    have h0 : (bestL l).2 = 0 := by omega
    have h1 := (bestL_zero l).2 h0
    simp only [downR]
    rw [← h1, ← h0]
  | n + 1, hn, h => by
    obtain ⟨k1, k2⟩ := kindR_take hn hl
    simp only [downR]
    by_cases e : n + 1 = (bestL l).2
    · have := k2 (by omega) e
      have hb : (bestL l).1 ≠ 0 := fun hh => by have := (bestL_zero l).1 hh; omega
      have hp := kindR_pos (l.take (n + 1))
      rw [if_pos (by omega), this, e]
    · have hk : kindR (l.take (n + 1)) = 0 := by
        by_cases hk : kindR (l.take (n + 1)) = 0
        · exact hk
        · have := k1 _ rfl hk; omega
      rw [if_neg (by omega)]
      exact downR_eq hl (by omega) (by omega)
def hdrGo (close : Int) : Bs → Nat
  | [] => 0
  | c :: r => match decide (c = 10) with
    | true => 0
    | false => match decide (c = close) with
      | true => 1
      | false => match hdrGo close r with
        | 0 => 0
        | n + 1 => n + 2
def hdrN : Bs → Nat
  | [] => 0
  | c :: r =>
    if c = 60 then (match hdrGo 62 r with
      | 0 => 0
      | n + 1 => n + 2)
    else if c = 34 then (match hdrGo 34 r with
      | 0 => 0
      | n + 1 => n + 2)
    else 0
def endC : Bs → Nat
  | [] => 0
  | [_] => 0
  | a :: b :: r => match decide (a = 42) && decide (b = 47) with
    | true => 2
    | false => match endC (b :: r) with
      | 0 => 0
      | n + 1 => n + 2
def notNl (c : Int) : Bool := !decide (c = 10)
structure Item where
  kind : Int
  len : Nat
  err : Int
  deriving DecidableEq
def isOpen (l : Bs) : Bool := decide (l.take 2 = [47, 42])
def isLine (l : Bs) : Bool := decide (l.take 2 = [47, 47])
def qHead : Bs → Bool
  | c :: _ => quoteB c
  | [] => false
def itemP (hdr : Bool) (l : Bs) : Item :=
  if hdr = true ∧ 0 < hdrN l then ⟨7, hdrN l, 0⟩
  else if isOpen l = true then (match endC (l.drop 2) with
    | 0 => ⟨0, 0, 20⟩
    | n + 1 => ⟨8, n + 3, 0⟩)
  else if isLine l = true then ⟨8, run notNl l, 0⟩
  else if l.head? = some 10 then ⟨9, 1, 0⟩
  else if (bestL l).1 ≠ 0 then ⟨(bestL l).1, (bestL l).2, 0⟩
  else if qHead l = true then ⟨0, 0, 21⟩
  else ⟨6, 1, 0⟩
theorem hdrGo_le (q : Int) : ∀ l : Bs, hdrGo q l ≤ l.length
  | [] => Nat.le_refl _
  | c :: r => by
    have := hdrGo_le q r
    simp only [hdrGo, List.length_cons]
    split
    · omega
    · split
      · omega
      · split <;> omega
theorem hdrN_le (l : Bs) : hdrN l ≤ l.length := by
  cases l with
  | nil => exact Nat.le_refl _
  | cons c r =>
    have h1 := hdrGo_le 62 r
    have h2 := hdrGo_le 34 r
    simp only [hdrN, List.length_cons]
    split
    · split <;> omega
    · split
      · split <;> omega
      · omega
theorem endC_le : ∀ l : Bs, endC l ≤ l.length
  | [] => Nat.le_refl _
  | [_] => Nat.zero_le _
  | a :: b :: r => by
    have := endC_le (b :: r)
    simp only [List.length_cons] at this ⊢
    simp only [endC]
    split
    · omega
    · split <;> omega
theorem itemP_le (hdr : Bool) {l : Bs} (hl : l ≠ []) : (itemP hdr l).len ≤ l.length ∧ ((itemP hdr l).err = 0 → 1 ≤ (itemP hdr l).len) := by
  have hpos : 1 ≤ l.length := by
    cases l with
    | nil => exact absurd rfl hl
    | cons => simp
  unfold itemP
  split
  · rename_i h; exact ⟨hdrN_le l, fun _ => h.2⟩
  · split
    · rename_i h
      have h1 := endC_le (l.drop 2)
      rw [List.length_drop] at h1
      split
      · exact ⟨Nat.zero_le _, fun h => by cases h⟩
      · rename_i n hn
        exact ⟨by show n + 3 ≤ _; omega, fun _ => by show 1 ≤ n + 3; omega⟩
    · split
      · rename_i h
        refine ⟨run_le _ l, fun _ => ?_⟩
        simp only [isLine, decide_eq_true_eq] at h
        match l, h with
        | a :: b :: r, h =>
          simp at h
          obtain ⟨rfl, rfl⟩ := h
          simp [run, notNl]
        | [a], h => simp at h
      · split
        · exact ⟨hpos, fun _ => Nat.le_refl _⟩
        · split
          · rename_i h
            refine ⟨bestL_le l, fun _ => ?_⟩
            have : (bestL l).2 ≠ 0 := fun hh => h ((bestL_zero l).2 hh)
            show 1 ≤ (bestL l).2
            omega
          · split
            · exact ⟨Nat.zero_le _, fun h => by cases h⟩
            · exact ⟨hpos, fun _ => Nat.le_refl _⟩
def after (st kind : Int) (t : Bs) : Int :=
  if kind = 8 then st else if kind = 9 then 0
  else if st = 0 ∧ kind = 5 ∧ (t = [35] ∨ t = [37, 58]) then 1
  else if st = 1 ∧ kind = 1 ∧ t = [105, 110, 99, 108, 117, 100, 101] then 2 else 3
structure Tk where
  kind : Int
  lo : Nat
  hi : Nat
  err : Int
  deriving DecidableEq
def itemsF : Nat → Int → Nat → Bs → List Tk
  | 0, _, _, _ => []
  | _ + 1, _, _, [] => []
  | n + 1, st, i, c :: r =>
    match white c with
    | true => itemsF n st (i + 1) r
    | false =>
      if (itemP (decide (st = 2)) (c :: r)).err ≠ 0 then [⟨0, 0, 0, (itemP (decide (st = 2)) (c :: r)).err⟩]
      else ⟨(itemP (decide (st = 2)) (c :: r)).kind, i, i + (itemP (decide (st = 2)) (c :: r)).len, 0⟩ ::
        itemsF n (after st (itemP (decide (st = 2)) (c :: r)).kind ((c :: r).take (itemP (decide (st = 2)) (c :: r)).len)) (i + (itemP (decide (st = 2)) (c :: r)).len) ((c :: r).drop (itemP (decide (st = 2)) (c :: r)).len)
def itemsL (l : Bs) : List Tk := itemsF l.length 0 0 l
theorem itemsF_fuel : ∀ (n m : Nat) (st : Int) (i : Nat) (l : Bs), l.length ≤ n → l.length ≤ m → itemsF n st i l = itemsF m st i l
  | 0, 0, _, _, _, _, _ => rfl
  | 0, m + 1, _, _, l, h, _ => by
    have : l = [] := List.eq_nil_of_length_eq_zero (by omega)
    subst this; rfl
  | n + 1, 0, _, _, l, _, h => by
    have : l = [] := List.eq_nil_of_length_eq_zero (by omega)
    subst this; rfl
  | n + 1, m + 1, st, i, [], _, _ => rfl
  | n + 1, m + 1, st, i, c :: r, h1, h2 => by
    simp only [List.length_cons] at h1 h2
    simp only [itemsF]
    split
    · exact itemsF_fuel n m _ _ r (by omega) (by omega)
    · split
      · rfl
      · rename_i h
        have hle := itemP_le (decide (st = 2)) (l := c :: r) (by simp)
        have h3 := hle.2 (by simpa using h)
        rw [itemsF_fuel n m _ _ _ (by rw [List.length_drop, List.length_cons]; omega) (by rw [List.length_drop, List.length_cons]; omega)]
def chain : Nat → Nat → List Tk → Prop
  | i, n, [] => i ≤ n
  | i, n, t :: r => (t.err = 0 ∧ i ≤ t.lo ∧ t.lo < t.hi ∧ t.hi ≤ n ∧ chain t.hi n r) ∨ (t.err ≠ 0 ∧ r = [])
theorem itemP_err (hdr : Bool) (l : Bs) : (itemP hdr l).err = 0 ∨ (itemP hdr l).err = 20 ∨ (itemP hdr l).err = 21 := by
  unfold itemP
  split
  · exact .inl rfl
  · split
    · split
      · exact .inr (.inl rfl)
      · exact .inl rfl
    · split
      · exact .inl rfl
      · split
        · exact .inl rfl
        · split
          · exact .inl rfl
          · split
            · exact .inr (.inr rfl)
            · exact .inl rfl
theorem chain_weaken : ∀ {xs : List Tk} {i j n : Nat}, j ≤ i → chain i n xs → chain j n xs
  | [], _, _, _, h, hc => Nat.le_trans h hc
  | _ :: _, _, _, _, h, hc => by
    rcases hc with ⟨h1, h2, h3⟩ | h1
    · exact .inl ⟨h1, by omega, h3⟩
    · exact .inr h1
theorem itemsF_chain : ∀ (n : Nat) (st : Int) (i : Nat) (l : Bs), chain i (i + l.length) (itemsF n st i l)
  | 0, _, i, l => Nat.le_add_right ..
  | n + 1, st, i, [] => Nat.le_refl _
  | n + 1, st, i, c :: r => by
    simp only [itemsF]
    split
    · have := itemsF_chain n st (i + 1) r
      rw [List.length_cons, show i + (r.length + 1) = i + 1 + r.length by omega]
      exact chain_weaken (Nat.le_succ i) this
    · split
      · rename_i h
        exact .inr ⟨h, rfl⟩
      · rename_i h
        have hle := itemP_le (decide (st = 2)) (l := c :: r) (by simp)
        have h3 := hle.2 (by simpa using h)
        have := itemsF_chain n (after st (itemP (decide (st = 2)) (c :: r)).kind ((c :: r).take (itemP (decide (st = 2)) (c :: r)).len)) (i + (itemP (decide (st = 2)) (c :: r)).len) ((c :: r).drop (itemP (decide (st = 2)) (c :: r)).len)
        rw [List.length_drop, show i + (itemP (decide (st = 2)) (c :: r)).len + ((c :: r).length - (itemP (decide (st = 2)) (c :: r)).len) = i + (c :: r).length by omega] at this
        exact .inl ⟨rfl, Nat.le_refl _, by show i < i + _; omega, by show i + _ ≤ _; omega, this⟩
theorem run_take (p : Int → Bool) : ∀ (l : Bs) (n : Nat), run p l ≤ n → run p (l.take n) = run p l
  | [], n, _ => by simp
  | c :: r, 0, h => by
    simp only [run] at h ⊢
    cases hc : p c with
    | true => rw [hc] at h; simp at h
    | false => rfl
  | c :: r, n + 1, h => by
    simp only [List.take_succ_cons, run] at h ⊢
    cases hc : p c with
    | true => rw [hc] at h; simp at h; simp only [run_take p r n h]
    | false => rfl
theorem kindR_best {l : Bs} {m : Nat} (hm : m ≤ l.length) (hl : l.head? ≠ some 10) (h : kindR (l.take m) ≠ 0) : m ≤ (bestL l).2 := ((kindR_take hm hl).1 _ rfl h).2
theorem head_take {l : Bs} {n : Nat} (hn : 0 < n) : (l.take n).head? = l.head? := by
  cases l with
  | nil => simp
  | cons c r =>
    cases n with
    | zero => omega
    | succ n => rfl
theorem bestL_take {l : Bs} {n : Nat} (hl : l.head? ≠ some 10) (hn : (bestL l).2 ≤ n) (hn0 : 0 < n) : bestL (l.take n) = bestL l := by
  rcases Nat.lt_or_ge l.length n with hlt | hge
  · rw [List.take_of_length_le (by omega)]
  have hl' : (l.take n).head? ≠ some 10 := by rw [head_take hn0]; exact hl
  have hlen : (l.take n).length = n := by rw [List.length_take]; omega
  obtain ⟨k1, k2⟩ := kindR_take (l := l) (m := (bestL l).2) (bestL_le l) hl
  obtain ⟨j1, j2⟩ := kindR_take (l := l.take n) (m := (bestL (l.take n)).2) (bestL_le _) hl'
  have e1 : (l.take n).take (bestL l).2 = l.take (bestL l).2 := by rw [List.take_take, Nat.min_eq_left hn]
  have hle := bestL_le (l.take n)
  rw [hlen] at hle
  have e2 : (l.take n).take (bestL (l.take n)).2 = l.take (bestL (l.take n)).2 := by rw [List.take_take, Nat.min_eq_left hle]
  have a1 : (bestL l).2 ≤ (bestL (l.take n)).2 := by
    rcases Nat.eq_zero_or_pos (bestL l).2 with h0 | h0
    · omega
    · have hk := k2 h0 rfl
      have hb : (bestL l).1 ≠ 0 := fun hh => by have := (bestL_zero l).1 hh; omega
      exact ((kindR_take (l := l.take n) (m := (bestL l).2) (by omega) hl').1 _ rfl (by rw [e1, hk]; exact hb)).2
  have a2 : (bestL (l.take n)).2 ≤ (bestL l).2 := by
    rcases Nat.eq_zero_or_pos (bestL (l.take n)).2 with h0 | h0
    · omega
    · have hk := j2 h0 rfl
      rw [e2] at hk
      have hb : (bestL (l.take n)).1 ≠ 0 := fun hh => by have := (bestL_zero (l.take n)).1 hh; omega
      exact ((kindR_take (l := l) (m := (bestL (l.take n)).2) (by omega) hl).1 _ rfl (by rw [hk]; exact hb)).2
  have e : (bestL (l.take n)).2 = (bestL l).2 := by omega
  rcases Nat.eq_zero_or_pos (bestL l).2 with h0 | h0
  · exact Prod.ext (by rw [(bestL_zero l).2 h0, (bestL_zero (l.take n)).2 (by omega)]) e
  · have hk := k2 h0 rfl
    have hk2 := j2 (by omega) rfl
    rw [e2, e, hk] at hk2
    exact Prod.ext hk2.symm e
theorem endC_take : ∀ (l : Bs) (n : Nat), 0 < endC l → endC l ≤ n → endC (l.take n) = endC l
  | [], _, h, _ => by cases h
  | [_], _, h, _ => by cases h
  | a :: b :: r, n, h, hn => by
    have hle : 2 ≤ endC (a :: b :: r) := by
      simp only [endC] at h ⊢
      split
      · omega
      · split
        · rename_i h1 _ h2; rw [h1] at h; simp only [h2] at h; omega
        · omega
    obtain ⟨k, rfl⟩ : ∃ k, n = k + 2 := ⟨n - 2, by omega⟩
    simp only [List.take_succ_cons]
    simp only [endC] at h hn ⊢
    cases hc : (decide (a = 42) && decide (b = 47)) with
    | true => rfl
    | false =>
      rw [hc] at h hn
      simp only at h hn ⊢
      have e : (b :: r).take (k + 1) = b :: r.take k := rfl
      rw [← e]
      rcases Nat.eq_zero_or_pos (endC (b :: r)) with h0 | h0
      · rw [h0] at h; cases h
      · have := endC_take (b :: r) (k + 1) h0 (by
          cases hm : endC (b :: r) with
          | zero => omega
          | succ m => rw [hm] at hn; simp only at hn; omega)
        rw [this]
theorem take2_take {l : Bs} {n : Nat} (hn : 2 ≤ n) : (l.take n).take 2 = l.take 2 := by rw [List.take_take, Nat.min_eq_left hn]
theorem itemP_take {l : Bs} {n : Nat} (hl : l ≠ []) (he : (itemP false l).err = 0) (hn : (itemP false l).len ≤ n) : itemP false (l.take n) = itemP false l := by
  have h1 := (itemP_le false hl).2 he
  have hn0 : 0 < n := by omega
  rcases Nat.lt_or_ge l.length n with hlt | hge
  · rw [List.take_of_length_le (by omega)]
  have hlen : (l.take n).length = n := by rw [List.length_take]; omega
  have hhead : (l.take n).head? = l.head? := head_take hn0
  by_cases ho : isOpen l = true
  · have e : itemP false l = (match endC (l.drop 2) with
      | 0 => ⟨0, 0, 20⟩
      | n + 1 => ⟨8, n + 3, 0⟩) := by
      unfold itemP; rw [if_neg (by simp), if_pos ho]
    rw [e] at he hn ⊢
    cases hm : endC (l.drop 2) with
    | zero => rw [hm] at he; cases he
    | succ m =>
      rw [hm] at hn
      have hn : m + 3 ≤ n := hn
      have ho' : isOpen (l.take n) = true := by
        unfold isOpen at ho ⊢; rw [take2_take (by omega)]; exact ho
      unfold itemP
      rw [if_neg (by simp), if_pos ho', List.drop_take, endC_take _ _ (by omega) (by omega), hm]
  · by_cases hs : isLine l = true
    · have e : itemP false l = ⟨8, run notNl l, 0⟩ := by
        unfold itemP; rw [if_neg (by simp), if_neg ho, if_pos hs]
      rw [e] at hn ⊢
      have hn : run notNl l ≤ n := hn
      have hr : 2 ≤ run notNl l := by
        simp only [isLine, decide_eq_true_eq] at hs
        match l, hs with
        | a :: b :: r, h =>
          simp at h
          obtain ⟨rfl, rfl⟩ := h
          simp [run, notNl]
        | [a], h => simp at h
        | [], h => simp at h
      have ho' : ¬ isOpen (l.take n) = true := by
        unfold isOpen at ho ⊢; rw [take2_take (by omega)]; exact ho
      have hs' : isLine (l.take n) = true := by
        unfold isLine at hs ⊢; rw [take2_take (by omega)]; exact hs
      unfold itemP
      rw [if_neg (by simp), if_neg ho', if_pos hs', run_take _ _ _ hn]
    · -- neither: no shorter text is one
      have two : ∀ x : Bs, x.length = 2 → (l.take n).take 2 = x → l.take 2 = x := by
        intro x hx hh
        rcases Nat.lt_or_ge n 2 with h2 | h2
        · rw [List.take_take, Nat.min_eq_right (by omega)] at hh
          have : x.length = n := by rw [← hh, hlen]
          omega
        · rw [take2_take h2] at hh; exact hh
      have ho' : ¬ isOpen (l.take n) = true := fun hh => ho (by
        unfold isOpen at hh ⊢
        rw [decide_eq_true_eq] at hh ⊢
        exact two _ rfl hh)
      have hs' : ¬ isLine (l.take n) = true := fun hh => hs (by
        unfold isLine at hh ⊢
        rw [decide_eq_true_eq] at hh ⊢
        exact two _ rfl hh)
      by_cases hnl : l.head? = some 10
      · unfold itemP
        rw [if_neg (by simp), if_neg ho', if_neg hs', if_pos (by rw [hhead]; exact hnl), if_neg (by simp), if_neg ho, if_neg hs, if_pos hnl]
      · have hb : (bestL l).2 ≤ n := by
          by_cases hb : (bestL l).1 ≠ 0
          · have e : itemP false l = ⟨(bestL l).1, (bestL l).2, 0⟩ := by
              unfold itemP; rw [if_neg (by simp), if_neg ho, if_neg hs, if_neg hnl, if_pos hb]
            rw [e] at hn; exact hn
          · have := (bestL_zero l).1 (by simpa using hb); omega
        have hq : qHead (l.take n) = qHead l := by
          cases l with
          | nil => exact absurd rfl hl
          | cons c r =>
            obtain ⟨k, rfl⟩ : ∃ k, n = k + 1 := ⟨n - 1, by omega⟩
            rfl
        unfold itemP
        rw [if_neg (show ¬ (false = true ∧ 0 < hdrN (l.take n)) by simp), if_neg ho', if_neg hs', if_neg (by rw [hhead]; exact hnl), bestL_take hnl hb hn0, hq, if_neg (show ¬ (false = true ∧ 0 < hdrN l) by simp), if_neg ho, if_neg hs, if_neg hnl]
theorem itemP_hdr {hdr : Bool} {l : Bs} (h : (itemP hdr l).kind ≠ 7) : itemP false l = itemP hdr l := by
  unfold itemP at h ⊢
  by_cases hh : hdr = true ∧ 0 < hdrN l
  · rw [if_pos hh] at h; exact absurd rfl h
  · rw [if_neg hh, if_neg (by simp)]
def oneL (l : Bs) : Option Int :=
  match itemsL l with
  | [t] => if t.err = 0 ∧ t.hi - t.lo = l.length then some t.kind else none
  | _ => none
theorem oneL_iff {l : Bs} {k : Int} : oneL l = some k ↔ ∃ c r, l = c :: r ∧ white c = false ∧ itemP false l = ⟨k, l.length, 0⟩ := by
  unfold oneL itemsL
  constructor
  · intro h
    cases l with
    | nil => simp [itemsF] at h
    | cons c r =>
      simp only [List.length_cons, itemsF] at h
      cases hw : white c with
      | true =>
        rw [hw] at h
        simp only at h
        have hc := itemsF_chain r.length 0 (0 + 1) r
        split at h
        · rename_i t ht
          rw [ht] at hc
          split at h
          · rename_i h1
            rcases hc with ⟨_, h2, h3, h4, h5⟩ | ⟨h2, _⟩
            · omega
            · exact absurd h1.1 h2
          · cases h
        · cases h
      | false =>
        rw [hw] at h
        simp only [show decide ((0 : Int) = 2) = false from rfl] at h
        have hle := itemP_le false (l := c :: r) (by simp)
        by_cases he : (itemP false (c :: r)).err = 0
        · rw [if_neg (by simpa using he)] at h
          split at h
          · rename_i t ht
            rw [List.cons.injEq] at ht
            obtain ⟨rfl, _⟩ := ht
            split at h
            · rename_i h1
              simp only [Nat.zero_add, Nat.sub_zero] at h1
              cases h
              refine ⟨c, r, rfl, hw, ?_⟩
              generalize hg : itemP false (c :: r) = it at *
              cases it
              simp only at he h1 ⊢
              rw [he, h1.2]
              rfl
            · cases h
          · cases h
        · rw [if_pos he] at h
          simp only at h
          rw [if_neg (fun hh => he hh.1)] at h
          cases h
  · rintro ⟨c, r, rfl, hw, hi⟩
    simp only [List.length_cons, itemsF, hw, show decide ((0 : Int) = 2) = false from rfl, hi]
    rw [if_neg (by simp)]
    rw [List.drop_eq_nil_of_le (by simp)]
    have : ∀ n st i, itemsF n st i [] = [] := fun n st i => by cases n <;> rfl
    rw [this]
    simp
theorem one_of_item {hdr : Bool} {c : Int} {r : Bs} (hw : white c = false) (he : (itemP hdr (c :: r)).err = 0) (hk : (itemP hdr (c :: r)).kind ≠ 7) :
    oneL ((c :: r).take (itemP hdr (c :: r)).len) = some (itemP hdr (c :: r)).kind := by
  have e := itemP_hdr hk
  rw [← e] at he hk ⊢
  have hle := itemP_le false (l := c :: r) (by simp)
  have h1 := hle.2 he
  obtain ⟨m, hm⟩ : ∃ m, (itemP false (c :: r)).len = m + 1 := ⟨(itemP false (c :: r)).len - 1, by omega⟩
  have ht := itemP_take (l := c :: r) (n := (itemP false (c :: r)).len) (by simp) he (Nat.le_refl _)
  rw [oneL_iff]
  refine ⟨c, r.take m, by rw [hm]; rfl, hw, ?_⟩
  rw [ht, List.length_take, Nat.min_eq_left hle.1]
  generalize itemP false (c :: r) = it at he ⊢
  cases it
  simp only at he ⊢
  rw [he]
def fusesL (a b : Bs) : Bool := !(match itemsL (a ++ b) with
  | [x, y] => decide (x.err = 0) && decide (y.err = 0) && decide (x.lo = 0) && decide (x.hi = a.length) && decide (y.lo = a.length) && decide (y.hi = a.length + b.length)
  | _ => false)
theorem alnum_nl {c : Int} (h : alnum c = true) : notNl c = true := by
  unfold notNl
  rw [Bool.not_eq_true', decide_eq_false_iff_not]
  rintro rfl
  cases h
theorem okp_nl {a b : Int} (h : okp a b = true) : notNl b = true := by
  unfold notNl
  rw [Bool.not_eq_true', decide_eq_false_iff_not]
  rintro rfl
  simp [okp, okc, alnum, letter, digit, sign] at h
theorem noPun_nl {c : Int} (h : noPun c = false) : notNl c = true := by
  unfold notNl
  rw [Bool.not_eq_true', decide_eq_false_iff_not]
  rintro rfl
  cases h
theorem allP_nl : ∀ (l : Bs) (a : Int), allP a l = true → l.all notNl = true
  | [], _, _ => rfl
  | b :: r, a, h => by
    simp only [allP, Bool.and_eq_true] at h
    simp only [List.all_cons, okp_nl h.1, allP_nl r b h.2, Bool.and_self]
theorem digit_nl {c : Int} (h : digit c = true) : notNl c = true := alnum_nl (by unfold alnum; rw [h]; simp)
theorem isNum_nl : ∀ {t : Bs}, isNum t = true → t.all notNl = true
  | [], _ => rfl
  | c :: r, h => by
    simp only [isNum] at h
    simp only [List.all_cons, Bool.and_eq_true]
    cases hc : digit c with
    | true =>
      rw [hc] at h
      exact ⟨digit_nl hc, allP_nl r c h⟩
    | false =>
      rw [hc] at h
      by_cases h46 : c = 46
      · subst h46
        cases r with
        | nil => cases h
        | cons d r' =>
          simp only [decide_true, Bool.and_eq_true] at h
          simp only [List.all_cons, Bool.and_eq_true]
          exact ⟨rfl, digit_nl h.1, allP_nl r' d h.2⟩
      · rw [decide_eq_false h46] at h
        simp at h
theorem isWord_nl {t : Bs} (h : isWord t = true) : t.all notNl = true := by
  cases t with
  | nil => rfl
  | cons c r =>
    simp only [isWord, Bool.and_eq_true, List.all_eq_true] at h
    simp only [List.all_cons, Bool.and_eq_true, List.all_eq_true]
    exact ⟨alnum_nl (by unfold alnum; rw [h.1]; rfl), fun x hx => alnum_nl (h.2 x hx)⟩
theorem isPun_nl {t : Bs} (h : isPun t = true) : t.all notNl = true := by
  have := (pun_facts t (isPun_mem.1 h)).2.1
  simp only [List.all_eq_true, Bool.not_eq_true'] at this ⊢
  exact fun x hx => noPun_nl (this x hx)
theorem pieces_nl (q : Int) : ∀ {t : Bs}, pieces q t = true → t.all notNl = true
  | [], _ => rfl
  | [c], h => by
    simp only [pieces, Bool.and_eq_true, Bool.not_eq_true', Bool.or_eq_false_iff] at h
    simp [notNl]
    simpa using h.1.2
  | c :: d :: r, h => by
    simp only [pieces] at h
    cases hc : (decide (c = q) || decide (c = 10)) with
    | true => rw [hc] at h; cases h
    | false =>
      rw [hc] at h
      simp only at h
      rw [Bool.or_eq_false_iff, decide_eq_false_iff_not, decide_eq_false_iff_not] at hc
      by_cases h92 : c = 92
      · rw [decide_eq_true h92] at h
        simp only [Bool.and_eq_true, Bool.not_eq_true', decide_eq_false_iff_not] at h
        have ih := pieces_nl q (t := r) h.2
        simp only [List.all_cons, Bool.and_eq_true, notNl, Bool.not_eq_true', decide_eq_false_iff_not]
        exact ⟨hc.2, h.1, ih⟩
      · rw [decide_eq_false h92] at h
        simp only at h
        have ih := pieces_nl q (t := d :: r) h
        rw [List.all_cons, ih, Bool.and_true]
        unfold notNl
        rw [decide_eq_false hc.2]; rfl
theorem isLit_nl {q : Int} (hq : q = 39 ∨ q = 34) : ∀ {ps : List Bs} {t : Bs}, (∀ p ∈ ps, p.all notNl = true) → isLit q ps t = true → t.all notNl = true
  | [], _, _, h => by cases h
  | p :: ps, t, hp, h => by
    simp only [isLit] at h
    cases hc : litAt q p t with
    | false => rw [hc] at h; exact isLit_nl hq (fun x hx => hp x (List.mem_cons_of_mem _ hx)) h
    | true =>
      unfold litAt at hc
      simp only [Bool.and_eq_true, decide_eq_true_eq] at hc
      obtain ⟨h1, h2, h3, h4, h5⟩ := hc
      have hqn : notNl q = true := by rcases hq with rfl | rfl <;> rfl
      have e1 : t = t.take (t.length - 1) ++ [q] := by
        have h6 : t.length - 1 < t.length := by omega
        have h7 := List.take_append_getElem (l := t) (i := t.length - 1) h6
        rw [List.getElem?_eq_getElem h6, Option.some.injEq] at h4
        rw [h4, show t.length - 1 + 1 = t.length by omega, List.take_length] at h7
        exact h7.symm
      have e2 : t.take (t.length - 1) = p ++ q :: (t.take (t.length - 1)).drop (p.length + 1) := by
        have h6 : (t.take (t.length - 1))[p.length]? = some q := by rw [List.getElem?_take, if_pos (by omega)]; exact h3
        have h7 := List.take_append_drop p.length (t.take (t.length - 1))
        rw [drop_cons_of h6, List.take_take, Nat.min_eq_left (by omega), h2] at h7
        exact h7.symm
      rw [e1, List.all_append, e2, List.all_append, List.all_cons, hp p (List.mem_cons_self ..), hqn, pieces_nl q h5]
      simp [hqn]
theorem best_nl {l : Bs} (hl : l.head? ≠ some 10) : (bestL l).2 ≤ run notNl l := by
  rcases Nat.eq_zero_or_pos (bestL l).2 with h0 | h0
  · omega
  rw [← all_take_run notNl l _ (bestL_le l)]
  have hk := (kindR_take (bestL_le l) hl).2 h0 rfl
  have hb : (bestL l).1 ≠ 0 := fun hh => by have := (bestL_zero l).1 hh; omega
  rw [← hk] at hb
  unfold kindR at hb
  split at hb
  · rename_i h
    exfalso
    apply hl
    cases l with
    | nil => simp at h
    | cons c r =>
      obtain ⟨m, hm⟩ : ∃ m, (bestL (c :: r)).2 = m + 1 := ⟨(bestL (c :: r)).2 - 1, by omega⟩
      rw [hm] at h
      simp at h
      rw [h.1]; rfl
  · split at hb
    · rename_i h; exact isWord_nl h
    · split at hb
      · rename_i h; exact isNum_nl h
      · split at hb
        · rename_i h; exact isLit_nl (.inl rfl) (by decide) h
        · split at hb
          · rename_i h; exact isLit_nl (.inr rfl) (by decide) h
          · split at hb
            · rename_i h; exact isPun_nl h
            · exact absurd rfl hb
def longR (l : Bs) : Int × Nat :=
  if run notNl l = 0 then (9, 1)
  else if (downR (run notNl l) l).1 ≠ 0 then downR (run notNl l) l
  else if qHead l = true then (0, 0) else (6, 1)
def remR (l : Bs) : Int :=
  if isOpen l = true then (match endC (l.drop 2) with
    | 0 => -1
    | n + 1 => (n + 3 : Int))
  else if isLine l = true then (run notNl l : Int) else 0
def itemR (hdr : Bool) (l : Bs) : Item :=
  let n0 : Int := if hdr = true then (hdrN l : Int) else 0
  if n0 ≠ 0 then ⟨7, n0.toNat, 0⟩
  else if remR l < 0 then ⟨0, 0, 20⟩
  else if remR l ≠ 0 then ⟨8, (remR l).toNat, 0⟩
  else if (longR l).2 = 0 then ⟨0, 0, 21⟩ else ⟨(longR l).1, (longR l).2, 0⟩
theorem run_zero {l : Bs} (hl : l ≠ []) : run notNl l = 0 ↔ l.head? = some 10 := by
  cases l with
  | nil => exact absurd rfl hl
  | cons c r =>
    simp only [run, List.head?_cons, Option.some.injEq]
    by_cases h : c = 10
    · subst h; simp [notNl]
    · simp [notNl, h]
theorem itemR_eq (hdr : Bool) {l : Bs} (hl : l ≠ []) : itemR hdr l = itemP hdr l := by
  unfold itemR itemP
  by_cases h1 : hdr = true ∧ 0 < hdrN l
  · simp only [if_pos h1.1, if_pos h1]
    rw [if_pos (by omega)]
    simp
  · have hn0 : (if hdr = true then (hdrN l : Int) else 0) = 0 := by
      split
      · rename_i h; have : ¬ 0 < hdrN l := fun hh => h1 ⟨h, hh⟩; omega
      · rfl
    simp only [hn0, if_neg h1, ne_eq, not_true_eq_false, if_false]
    by_cases h2 : isOpen l = true
    · unfold remR
      simp only [if_pos h2]
      cases hm : endC (l.drop 2) with
      | zero => simp
      | succ n =>
        simp only
        rw [if_neg (by omega), if_pos (by omega)]
        congr 1
    · by_cases h3 : isLine l = true
      · unfold remR
        simp only [if_neg h2, if_pos h3]
        have hr : run notNl l ≠ 0 := by
          rw [Ne, run_zero hl]
          intro h4
          simp only [isLine, decide_eq_true_eq] at h3
          cases l with
          | nil => exact hl rfl
          | cons c r => simp at h4 h3; omega
        rw [if_neg (by omega), if_pos (by omega)]
        simp
      · have hr : remR l = 0 := by unfold remR; rw [if_neg h2, if_neg h3]
        simp only [hr, if_neg h2, if_neg h3]
        simp only [Int.lt_irrefl, if_false, not_true_eq_false]
        unfold longR
        by_cases h4 : l.head? = some 10
        · rw [if_pos ((run_zero hl).2 h4), if_pos h4]; rfl
        · have hd := downR_eq h4 (run_le notNl l) (best_nl h4)
          rw [if_neg (fun hh => h4 ((run_zero hl).1 hh)), if_neg h4, hd]
          by_cases h5 : (bestL l).1 = 0
          · simp only [h5, ne_eq, not_true_eq_false, if_false]
            by_cases h6 : qHead l = true
            · simp only [if_pos h6, if_true]
            · simp only [if_neg h6]
              rfl
          · have : (bestL l).2 ≠ 0 := fun hh => h5 ((bestL_zero l).2 hh)
            simp only [ne_eq, h5, not_false_eq_true, if_true, this, if_false]
def fz (a b : Bs) : Bool := decide ((itemP false (a ++ b)).err ≠ 0) || decide ((itemP false (a ++ b)).len ≠ a.length)
theorem after0 (k : Int) (t : Bs) : after 0 k t ≠ 2 := by
  unfold after
  split
  · decide
  · split
    · decide
    · split
      · decide
      · rw [if_neg (by simp)]; decide
theorem items_pair {a b : Bs} {ka kb : Int} (ha : oneL a = some ka) (hb : oneL b = some kb) :
    (fz a b = false ∧ itemsL (a ++ b) = [⟨ka, 0, a.length, 0⟩, ⟨kb, a.length, a.length + b.length, 0⟩]) ∨
    (fz a b = true ∧ ∃ x r, itemsL (a ++ b) = x :: r ∧ ((x.err ≠ 0 ∧ r = []) ∨ (x.err = 0 ∧ x.lo = 0 ∧ x.hi ≠ a.length))) := by
  obtain ⟨c, r, rfl, hw, hi⟩ := oneL_iff.1 ha
  obtain ⟨c', r', rfl, hw', hi'⟩ := oneL_iff.1 hb
  have e0 : itemsL ((c :: r) ++ (c' :: r')) = if (itemP false ((c :: r) ++ (c' :: r'))).err ≠ 0 then [⟨0, 0, 0, (itemP false ((c :: r) ++ (c' :: r'))).err⟩]
      else ⟨(itemP false ((c :: r) ++ (c' :: r'))).kind, 0, 0 + (itemP false ((c :: r) ++ (c' :: r'))).len, 0⟩ ::
        itemsF (r ++ c' :: r').length (after 0 (itemP false ((c :: r) ++ (c' :: r'))).kind (((c :: r) ++ (c' :: r')).take (itemP false ((c :: r) ++ (c' :: r'))).len)) (0 + (itemP false ((c :: r) ++ (c' :: r'))).len) (((c :: r) ++ (c' :: r')).drop (itemP false ((c :: r) ++ (c' :: r'))).len) := by
    unfold itemsL
    rw [List.cons_append, List.length_cons]
    simp only [itemsF, hw, show decide ((0 : Int) = 2) = false from rfl]
  rw [e0]
  unfold fz
  by_cases he : (itemP false ((c :: r) ++ (c' :: r'))).err = 0
  · by_cases hn : (itemP false ((c :: r) ++ (c' :: r'))).len = (c :: r).length
    · left
      have ht := itemP_take (l := (c :: r) ++ (c' :: r')) (n := (c :: r).length) (by simp) he (by omega)
      rw [List.take_left' rfl, hi] at ht
      rw [← ht]
      refine ⟨by simp, ?_⟩
      rw [if_neg (by simp)]
      simp only [Nat.zero_add, List.take_left' rfl, List.drop_left' rfl]
      obtain ⟨n, hnn⟩ : ∃ n, (r ++ c' :: r').length = n + 1 := ⟨(r ++ c' :: r').length - 1, by rw [List.length_append, List.length_cons]; omega⟩
      rw [hnn]
      simp only [itemsF, hw', decide_eq_false (after0 ka (c :: r)), hi']
      rw [if_neg (by simp), List.drop_eq_nil_of_le (Nat.le_refl _)]
      have : ∀ n st i, itemsF n st i [] = [] := fun n st i => by cases n <;> rfl
      rw [this]
    · right
      refine ⟨by rw [decide_eq_true (show (itemP false ((c :: r) ++ (c' :: r'))).len ≠ (c :: r).length from hn), Bool.or_true], ?_⟩
      rw [if_neg (by simpa using he)]
      exact ⟨_, _, rfl, .inr ⟨rfl, rfl, by simpa using hn⟩⟩
  · right
    refine ⟨by rw [decide_eq_true (show (itemP false ((c :: r) ++ (c' :: r'))).err ≠ 0 from he), Bool.true_or], ?_⟩
    rw [if_pos he]
    exact ⟨_, _, rfl, .inl ⟨he, rfl⟩⟩
def fuseG (ka kb : Int) (na nb : Nat) : Nat → List Tk → Bool
  | c, [] => decide (c ≠ 2)
  | c, t :: r => if t.err ≠ 0 then true else if c = 0 ∧ t.kind = ka ∧ t.lo = 0 ∧ t.hi = na then fuseG ka kb na nb 1 r
    else if c = 1 ∧ t.kind = kb ∧ t.lo = na ∧ t.hi = na + nb then fuseG ka kb na nb 2 r else true
theorem fuseG_eq {a b : Bs} {ka kb : Int} (ha : oneL a = some ka) (hb : oneL b = some kb) : fuseG ka kb a.length b.length 0 (itemsL (a ++ b)) = fz a b := by
  rcases items_pair ha hb with ⟨h1, h2⟩ | ⟨h1, x, r, h2, h3⟩
  · rw [h1, h2]
    simp [fuseG]
  · rw [h1, h2]
    rcases h3 with ⟨h3, _⟩ | ⟨h3, h4, h5⟩
    · simp [fuseG, h3]
    · simp [fuseG, h3, h4, h5]
def oneG (n : Nat) : Int × Nat → List Tk → Int × Nat
  | s, [] => s
  | s, t :: r => if t.err ≠ 0 ∨ t.hi - t.lo ≠ n then (s.1, 0) else oneG n (t.kind, s.2 + 1) r
theorem itemsF_nil (n : Nat) (st : Int) (i : Nat) : itemsF n st i [] = [] := by cases n <;> rfl
theorem one_bad {l : Bs} {t : Tk} {r : List Tk} (hx : itemsL l = t :: r) (hne : t.err ≠ 0 ∨ t.hi - t.lo ≠ l.length) : oneL l = none ∧ oneG l.length (0, 0) (itemsL l) = (0, 0) := by
  unfold oneL
  rw [hx]
  constructor
  · split
    · rename_i t' ht
      rw [List.cons.injEq] at ht
      obtain ⟨rfl, _⟩ := ht
      rw [if_neg (fun hh => hne.elim (fun h => h hh.1) (fun h => h hh.2))]
    · rfl
  · simp only [oneG]
    rw [if_pos hne]
theorem oneG_eq (l : Bs) : oneL l = if (oneG l.length (0, 0) (itemsL l)).2 = 1 then some (oneG l.length (0, 0) (itemsL l)).1 else none := by
  cases l with
  | nil => rfl
  | cons c r =>
    cases hw : white c with
    | true =>
      have e : itemsL (c :: r) = itemsF r.length 0 1 r := by
        unfold itemsL; simp only [List.length_cons, itemsF, hw, Nat.zero_add]
      have hc := itemsF_chain r.length 0 1 r
      cases hx : itemsF r.length 0 1 r with
      | nil => unfold oneL; rw [e, hx]; rfl
      | cons t q =>
        rw [hx] at hc e
        have hne : t.err ≠ 0 ∨ t.hi - t.lo ≠ (c :: r).length := by
          rcases hc with ⟨h1, h2, h3, h4, _⟩ | ⟨h1, _⟩
          · right; simp only [List.length_cons]; omega
          · exact .inl h1
        obtain ⟨e1, e2⟩ := one_bad e hne
        rw [e1, e2]; rfl
    | false =>
      have e : itemsL (c :: r) = if (itemP false (c :: r)).err ≠ 0 then [⟨0, 0, 0, (itemP false (c :: r)).err⟩]
          else ⟨(itemP false (c :: r)).kind, 0, 0 + (itemP false (c :: r)).len, 0⟩ ::
            itemsF r.length (after 0 (itemP false (c :: r)).kind ((c :: r).take (itemP false (c :: r)).len)) (0 + (itemP false (c :: r)).len) ((c :: r).drop (itemP false (c :: r)).len) := by
        unfold itemsL
        simp only [List.length_cons, itemsF, hw, show decide ((0 : Int) = 2) = false from rfl]
      by_cases he : (itemP false (c :: r)).err = 0
      · rw [if_neg (by simpa using he)] at e
        by_cases hn : (itemP false (c :: r)).len = (c :: r).length
        · rw [hn, List.drop_eq_nil_of_le (Nat.le_refl _), itemsF_nil] at e
          unfold oneL
          rw [e]
          simp [oneG]
        · obtain ⟨e1, e2⟩ := one_bad e (.inr (by simpa using hn))
          rw [e1, e2]; rfl
      · rw [if_pos he] at e
        obtain ⟨e1, e2⟩ := one_bad e (.inl he)
        rw [e1, e2]; rfl
end Go.Lx
namespace Go.Proofs.Ytdonomneofdhfaa
open Go.GV Go.RowKit
def bl (s : ByteArray) : Lx.Bs := s.data.toList.map fun b => (b.toNat : Int)
def tl (s : ByteArray) (i : Int) : Lx.Bs := (bl s).drop i.toNat
theorem bl_len (s : ByteArray) : (bl s).length = s.size := by rw [bl, List.length_map, Array.length_toList]; rfl
theorem tl_len (s : ByteArray) (i : Int) : (tl s i).length = s.size - i.toNat := by rw [tl, List.length_drop, bl_len]
theorem bl_get (s : ByteArray) {n : Nat} (h : n < s.size) : (bl s)[n]? = some (bt s n) := by
  unfold bl bt
  have h' : n < s.data.toList.length := by rw [Array.length_toList]; exact h
  simp only [List.getElem?_map, List.getD_eq_getElem?_getD, Int.toNat_natCast, List.getElem?_eq_getElem h', Option.map_some, Option.getD_some]
theorem tl_cons {s : ByteArray} {i : Int} (h0 : 0 ≤ i) (h : i < s.size) : tl s i = bt s i :: tl s (i + 1) := by
  have hl : i.toNat < (bl s).length := by rw [bl_len]; omega
  unfold tl
  rw [List.drop_eq_getElem_cons hl, show (i + 1).toNat = i.toNat + 1 by omega]
  have h2 := bl_get s (n := i.toNat) (by omega)
  rw [List.getElem?_eq_getElem hl] at h2
  rw [Option.some.inj h2]
  rfl
theorem tl_nil {s : ByteArray} {i : Int} (h : s.size ≤ i) : tl s i = [] := List.drop_eq_nil_of_le (by rw [bl_len]; omega)
theorem tl_zero (s : ByteArray) : tl s 0 = bl s := rfl
theorem white_any (c : Int) (w : World) : Calls Try.prog 131 #[.int .u8 c] w (PureP w fun v _ => v = .bool (Lx.white c)) := by
  refine x_fun tt_ok Try.func131 rfl rfl [] 0 [.v (.int .u8 c)] rfl rfl rfl rfl (fun b hb => by cases hb) ?_
  refine x_vc tt_ok ?_
  exact fin1 (fun _ _ => rfl)
theorem letter_or (c : Int) : (decide (c = 95) || decide (97 ≤ c) && decide (c ≤ 122) || decide (65 ≤ c) && decide (c ≤ 90)) = Lx.letter c := by
  unfold Lx.letter; rw [Bool.or_assoc, Bool.or_comm]
theorem letter_any (c : Int) (w : World) : Calls Try.prog 178 #[.int .u8 c] w (PureP w fun v _ => v = .bool (Lx.letter c)) := by
  refine x_fun tt_ok Try.func178 rfl rfl [] 0 [.v (.int .u8 c)] rfl rfl rfl rfl (fun b hb => by cases hb) ?_
  refine x_vc tt_ok ?_
  exact fin1 (fun _ _ => rfl)
theorem digit_any (c : Int) (w : World) : Calls Try.prog 179 #[.int .u8 c] w (PureP w fun v _ => v = .bool (Lx.digit c)) := by
  refine x_fun tt_ok Try.func179 rfl rfl [] 0 [.v (.int .u8 c)] rfl rfl rfl rfl (fun b hb => by cases hb) ?_
  refine x_vc tt_ok ?_
  exact fin1 (fun _ _ => rfl)
theorem letterR_any (c : Int) (w : World) : Calls Try.prog 181 #[.int .u8 c] w (PureP w fun v _ => v = .bool (Lx.letter c)) := by
  refine x_fun tt_ok Try.func181 rfl rfl [] 0 [.v (.int .u8 c)] rfl rfl rfl rfl (fun b hb => by cases hb) ?_
  refine x_vc tt_ok ?_
  exact fin1 (fun _ _ => congrArg Value.bool (letter_or c))
theorem digitR_any (c : Int) (w : World) : Calls Try.prog 182 #[.int .u8 c] w (PureP w fun v _ => v = .bool (Lx.digit c)) := by
  refine x_fun tt_ok Try.func182 rfl rfl [] 0 [.v (.int .u8 c)] rfl rfl rfl rfl (fun b hb => by cases hb) ?_
  refine x_vc tt_ok ?_
  exact fin1 (fun _ _ => rfl)
theorem sign_any (c : Int) (w : World) : Calls Try.prog 183 #[.int .u8 c] w (PureP w fun v _ => v = .bool (Lx.sign c)) := by
  refine x_fun tt_ok Try.func183 rfl rfl [] 0 [.v (.int .u8 c)] rfl rfl rfl rfl (fun b hb => by cases hb) ?_
  refine x_vc tt_ok ?_
  exact fin1 (fun _ _ => rfl)
theorem expo_any (c : Int) (w : World) : Calls Try.prog 184 #[.int .u8 c] w (PureP w fun v _ => v = .bool (Lx.expo c)) := by
  refine x_fun tt_ok Try.func184 rfl rfl [] 0 [.v (.int .u8 c)] rfl rfl rfl rfl (fun b hb => by cases hb) ?_
  refine x_vc tt_ok ?_
  exact fin1 (fun _ _ => rfl)
theorem hdrGo_pos (q : Int) (c : Int) (r : Lx.Bs) : Lx.hdrGo q (c :: r) = if c = 10 then 0 else if c = q then 1 else if Lx.hdrGo q r = 0 then 0 else Lx.hdrGo q r + 1 := by
  simp only [Lx.hdrGo]
  by_cases h1 : c = 10
  · simp [h1]
  · by_cases h2 : c = q
    · subst h2; simp [h1]
    · simp only [h1, h2, decide_false, if_false]
      cases Lx.hdrGo q r <;> simp
def atE (k : Int) (n : Nat) : Int := if n = 0 then 0 else k + n
theorem atE_zero (k : Int) : atE k 0 = 0 := rfl
theorem atE_one (k : Int) : atE k 1 = k + 1 := rfl
theorem atE_up (k : Int) (n : Nat) : atE k (if n = 0 then 0 else n + 1) = atE (k + 1) n := by
  unfold atE
  by_cases h : n = 0
  · simp [h]
  · simp [h]; omega
def hdrE (s : ByteArray) (i : Int) : Int := atE i (Lx.hdrN (tl s i))
theorem hdrE_eq {s : ByteArray} {i : Int} (h0 : 0 ≤ i) (h1 : i < s.size) : hdrE s i =
    if bt s i = 60 then atE (i + 1) (Lx.hdrGo 62 (tl s (i + 1)))
    else if bt s i = 34 then atE (i + 1) (Lx.hdrGo 34 (tl s (i + 1))) else 0 := by
  have e : ∀ n : Nat, atE i (match n with | 0 => 0 | n + 1 => n + 2 : Nat) = atE (i + 1) n := by
    intro n
    rw [← atE_up]; congr 1
    cases n <;> simp
  unfold hdrE
  rw [tl_cons h0 h1]
  simp only [Lx.hdrN]
  split
  · exact e _
  · split
    · exact e _
    · rfl
set_option maxRecDepth 100000 in
theorem hdr_any (s : ByteArray) (i : Int) (h0 : 0 ≤ i) (h1 : i < s.size) (hz : s.size ≤ 140737488355328) (w : World) :
    Calls Try.prog 150 #[.string s, .int .i64 i] w (PureP w fun v _ => v = .int .i64 (hdrE s i)) := by
  refine x_fun tt_ok Try.func150 rfl rfl [] 0 [.v (.string s), .v (.int .i64 i)] rfl rfl rfl rfl (fun b hb => by cases hb) ?_
  refine x_seq ?_
  refine x_vc tt_ok ?_
  refine x_seq ?_
  refine x_vc tt_ok ?_
  repeat (refine And.intro ?_ ?_; first | omega | (simp only [Lay.d_n]; omega) | (simp only [decide_eq_true_eq, decide_eq_false_iff_not, Bool.or_eq_false_iff, Bool.and_eq_true, Bool.or_eq_true, Bool.and_eq_false_iff, Bool.not_eq_true', Bool.not_eq_false', Lay.d_n]; omega) | (simp only [decide_eq_true_eq, decide_eq_false_iff_not, Bool.or_eq_false_iff, Bool.and_eq_true, Bool.or_eq_true, Bool.and_eq_false_iff, Bool.not_eq_true', Bool.not_eq_false']; omega))
  have hE := hdrE_eq h0 h1
  refine x_cut (σ := Int) (fun q => ⟨[(5, .v (.int .u8 q)), (1, .v (.int .i64 i)), (0, .v (.string s))], [], [], 0⟩)
    (fun q _ => hdrE s i = atE (i + 1) (Lx.hdrGo q (tl s (i + 1)))) (fun _ => Nat.le_refl _) ?_ ?_
  · refine x_vc tt_ok ?_
    refine x_if (fun h => ?_) (fun h => ?_)
    · rw [if_pos (of_decide_eq_true h)] at hE
      exact meet 62 [] (.of rfl rfl rfl rfl rfl rfl) hE
    · rw [if_neg (of_decide_eq_false h)] at hE
      refine x_if (fun h => ?_) (fun h => ?_)
      · have h34 := of_decide_eq_true h
        rw [if_pos h34, ← h34] at hE
        exact meet (bt s i) [] (.of rfl rfl rfl rfl rfl rfl) hE
      · rw [if_neg (of_decide_eq_false h)] at hE
        rw [hE]
        exact fin1 (fun _ _ => rfl)
  · rintro q u hu g
    clear hE
    refine x_vc tt_ok ?_
    repeat (refine And.intro ?_ ?_; first | omega | (simp only [Lay.d_n]; omega) | (simp only [decide_eq_true_eq, decide_eq_false_iff_not, Bool.or_eq_false_iff, Bool.and_eq_true, Bool.or_eq_true, Bool.and_eq_false_iff, Bool.not_eq_true', Bool.not_eq_false', Lay.d_n]; omega) | (simp only [decide_eq_true_eq, decide_eq_false_iff_not, Bool.or_eq_false_iff, Bool.and_eq_true, Bool.or_eq_true, Bool.and_eq_false_iff, Bool.not_eq_true', Bool.not_eq_false']; omega))
    refine x_loop (σ := Int) (fun k => ⟨[(6, .v (.int .i64 k)), (5, .v (.int .u8 q)), (0, .v (.string s))], [], [], 0⟩)
      (fun k _ => 0 ≤ k ∧ k ≤ s.size ∧ hdrE s i = atE k (Lx.hdrGo q (tl s k))) (fun k => (s.size - k).toNat) (fun _ => Nat.le_refl _) (i + 1) [] (.of rfl rfl rfl rfl rfl rfl)
      ⟨by omega, by omega, g⟩ ?_
    rintro k u2 hu2 ⟨g1, g2, g3⟩
    refine x_vc tt_ok ?_
    repeat (refine And.intro ?_ ?_; first | omega | (simp only [Lay.d_n]; omega) | (simp only [decide_eq_true_eq, decide_eq_false_iff_not, Bool.or_eq_false_iff, Bool.and_eq_true, Bool.or_eq_true, Bool.and_eq_false_iff, Bool.not_eq_true', Bool.not_eq_false', Lay.d_n]; omega) | (simp only [decide_eq_true_eq, decide_eq_false_iff_not, Bool.or_eq_false_iff, Bool.and_eq_true, Bool.or_eq_true, Bool.and_eq_false_iff, Bool.not_eq_true', Bool.not_eq_false']; omega))
    refine x_if (fun h => ?_) (fun h => ?_)
    · obtain ⟨ha, hb⟩ := Bool.and_eq_true_iff.1 h
      have h2 : k < s.size := of_decide_eq_true ha
      have h3 : ¬ bt s k = 10 := of_decide_eq_true hb
      rw [tl_cons g1 h2, hdrGo_pos, if_neg h3] at g3
      repeat (refine And.intro ?_ ?_; first | omega | (simp only [Lay.d_n]; omega) | (simp only [decide_eq_true_eq, decide_eq_false_iff_not, Bool.or_eq_false_iff, Bool.and_eq_true, Bool.or_eq_true, Bool.and_eq_false_iff, Bool.not_eq_true', Bool.not_eq_false', Lay.d_n]; omega) | (simp only [decide_eq_true_eq, decide_eq_false_iff_not, Bool.or_eq_false_iff, Bool.and_eq_true, Bool.or_eq_true, Bool.and_eq_false_iff, Bool.not_eq_true', Bool.not_eq_false']; omega))
      refine x_if (fun h5 => ?_) (fun h5 => ?_)
      · rw [if_pos (of_decide_eq_true h5)] at g3
        repeat (refine And.intro ?_ ?_; first | omega | (simp only [Lay.d_n]; omega) | (simp only [decide_eq_true_eq, decide_eq_false_iff_not, Bool.or_eq_false_iff, Bool.and_eq_true, Bool.or_eq_true, Bool.and_eq_false_iff, Bool.not_eq_true', Bool.not_eq_false', Lay.d_n]; omega) | (simp only [decide_eq_true_eq, decide_eq_false_iff_not, Bool.or_eq_false_iff, Bool.and_eq_true, Bool.or_eq_true, Bool.and_eq_false_iff, Bool.not_eq_true', Bool.not_eq_false']; omega))
        rw [g3]
        exact fin1 (fun _ _ => rfl)
      · repeat (refine And.intro ?_ ?_; first | omega | (simp only [Lay.d_n]; omega) | (simp only [decide_eq_true_eq, decide_eq_false_iff_not, Bool.or_eq_false_iff, Bool.and_eq_true, Bool.or_eq_true, Bool.and_eq_false_iff, Bool.not_eq_true', Bool.not_eq_false', Lay.d_n]; omega) | (simp only [decide_eq_true_eq, decide_eq_false_iff_not, Bool.or_eq_false_iff, Bool.and_eq_true, Bool.or_eq_true, Bool.and_eq_false_iff, Bool.not_eq_true', Bool.not_eq_false']; omega))
        rw [if_neg (of_decide_eq_false h5), atE_up] at g3
        exact again (k + 1) [] (.of rfl rfl rfl rfl rfl rfl) ⟨by omega, by omega, g3⟩ (by omega)
    · have g4 : hdrE s i = 0 := by
        rw [g3]
        by_cases h2 : k < s.size
        · have hb : bt s k = 10 := by
            have h3 : decide (bt s k ≠ 10) = false := by
              have ha : decide (k < (s.size : Int)) = true := decide_eq_true h2
              have h' : (decide (k < (s.size : Int)) && decide (bt s k ≠ 10)) = false := h
              rw [ha, Bool.true_and] at h'; exact h'
            exact Classical.not_not.1 (of_decide_eq_false h3)
          rw [tl_cons g1 h2, hdrGo_pos, if_pos hb]; rfl
        · rw [tl_nil (by omega)]; rfl
      rw [g4]
      exact fin1 (fun _ _ => rfl)
end Go.Proofs.Ytdonomneofdhfaa
namespace Go.Proofs.Ytdonomneofdhfaa
open Go.GV Go.RowKit
theorem run_cons (p : Int → Bool) (c : Int) (r : Lx.Bs) : Lx.run p (c :: r) = if p c = true then Lx.run p r + 1 else 0 := by
  simp only [Lx.run]
  cases p c <;> simp
theorem runP_cons (a c : Int) (r : Lx.Bs) : Lx.runP a (c :: r) = if Lx.okp a c = true then Lx.runP c r + 1 else 0 := by
  simp only [Lx.runP]
  cases Lx.okp a c <;> simp
def wordE (s : ByteArray) (i : Int) : Int := atE i (Lx.wordN (tl s i))
theorem wordE_eq {s : ByteArray} {i : Int} (h0 : 0 ≤ i) (h1 : i < s.size) : wordE s i = if Lx.letter (bt s i) = true then i + 1 + Lx.run Lx.alnum (tl s (i + 1)) else 0 := by
  unfold wordE
  rw [tl_cons h0 h1]
  simp only [Lx.wordN]
  cases Lx.letter (bt s i) with
  | true => simp [atE]; omega
  | false => rfl
set_option maxRecDepth 100000 in
theorem word_any (s : ByteArray) (i : Int) (h0 : 0 ≤ i) (h1 : i < s.size) (hz : s.size ≤ 140737488355328) (w : World) :
    Calls Try.prog 167 #[.string s, .int .i64 i] w (PureP w fun v _ => v = .int .i64 (wordE s i)) := by
  have hE := wordE_eq h0 h1
  refine x_fun tt_ok Try.func167 rfl rfl [] 0 [.v (.string s), .v (.int .i64 i)] rfl rfl rfl rfl (fun b hb => by cases hb) ?_
  refine x_vc tt_ok ?_
  repeat (refine And.intro ?_ ?_; first | omega | (simp only [Lay.d_n]; omega) | (simp only [decide_eq_true_eq, decide_eq_false_iff_not, Bool.or_eq_false_iff, Bool.and_eq_true, Bool.or_eq_true, Bool.and_eq_false_iff, Bool.not_eq_true', Bool.not_eq_false', Lay.d_n]; omega) | (simp only [decide_eq_true_eq, decide_eq_false_iff_not, Bool.or_eq_false_iff, Bool.and_eq_true, Bool.or_eq_true, Bool.and_eq_false_iff, Bool.not_eq_true', Bool.not_eq_false']; omega))
  refine xl_call0 (.bool (Lx.letter (bt s i))) rfl rfl rfl rfl fn178 rfl rfl (fun E w F _ => letter_any _ w) ?_
  refine xl_go tt_ok ?_
  refine x_if (fun h => ?_) (fun h => ?_)
  · have h' : Lx.letter (bt s i) = false := by simpa using h
    rw [if_neg (by rw [h']; simp)] at hE
    rw [hE]
    exact fin1 (fun _ _ => rfl)
  · have h' : Lx.letter (bt s i) = true := by simpa using h
    rw [if_pos h'] at hE
    repeat (refine And.intro ?_ ?_; first | omega | (simp only [Lay.d_n]; omega) | (simp only [decide_eq_true_eq, decide_eq_false_iff_not, Bool.or_eq_false_iff, Bool.and_eq_true, Bool.or_eq_true, Bool.and_eq_false_iff, Bool.not_eq_true', Bool.not_eq_false', Lay.d_n]; omega) | (simp only [decide_eq_true_eq, decide_eq_false_iff_not, Bool.or_eq_false_iff, Bool.and_eq_true, Bool.or_eq_true, Bool.and_eq_false_iff, Bool.not_eq_true', Bool.not_eq_false']; omega))
    refine x_loop (σ := Int) (fun k => ⟨[(5, .v (.int .i64 k)), (0, .v (.string s))], [], [], 0⟩)
      (fun k _ => 0 ≤ k ∧ k ≤ s.size ∧ wordE s i = k + Lx.run Lx.alnum (tl s k)) (fun k => (s.size - k).toNat) (fun _ => Nat.le_refl _) (i + 1) [] (.of rfl rfl rfl rfl rfl rfl)
      ⟨by omega, by omega, hE⟩ ?_
    rintro k u2 hu2 ⟨g1, g2, g3⟩
    refine x_vc tt_ok ?_
    repeat (refine And.intro ?_ ?_; first | omega | (simp only [Lay.d_n]; omega) | (simp only [decide_eq_true_eq, decide_eq_false_iff_not, Bool.or_eq_false_iff, Bool.and_eq_true, Bool.or_eq_true, Bool.and_eq_false_iff, Bool.not_eq_true', Bool.not_eq_false', Lay.d_n]; omega) | (simp only [decide_eq_true_eq, decide_eq_false_iff_not, Bool.or_eq_false_iff, Bool.and_eq_true, Bool.or_eq_true, Bool.and_eq_false_iff, Bool.not_eq_true', Bool.not_eq_false']; omega))
    refine xl_gcall0 (.bool (Lx.letter (bt s k))) rfl rfl rfl rfl fn178 rfl rfl (fun _ E w F _ => letter_any _ w) ?_
    refine xl_go tt_ok ?_
    repeat (refine And.intro ?_ ?_; first | omega | (simp only [Lay.d_n]; omega) | (simp only [decide_eq_true_eq, decide_eq_false_iff_not, Bool.or_eq_false_iff, Bool.and_eq_true, Bool.or_eq_true, Bool.and_eq_false_iff, Bool.not_eq_true', Bool.not_eq_false', Lay.d_n]; omega) | (simp only [decide_eq_true_eq, decide_eq_false_iff_not, Bool.or_eq_false_iff, Bool.and_eq_true, Bool.or_eq_true, Bool.and_eq_false_iff, Bool.not_eq_true', Bool.not_eq_false']; omega))
    refine xl_gcall0 (.bool (Lx.digit (bt s k))) rfl rfl rfl rfl fn179 rfl rfl (fun _ E w F _ => digit_any _ w) ?_
    refine xl_go tt_ok ?_
    refine x_if (fun h => ?_) (fun h => ?_)
    · obtain ⟨ha, hb⟩ := Bool.and_eq_true_iff.1 h
      have h2 : k < s.size := of_decide_eq_true ha
      have h3 : Lx.alnum (bt s k) = true := hb
      rw [tl_cons g1 h2, run_cons, if_pos h3] at g3
      repeat (refine And.intro ?_ ?_; first | omega | (simp only [Lay.d_n]; omega) | (simp only [decide_eq_true_eq, decide_eq_false_iff_not, Bool.or_eq_false_iff, Bool.and_eq_true, Bool.or_eq_true, Bool.and_eq_false_iff, Bool.not_eq_true', Bool.not_eq_false', Lay.d_n]; omega) | (simp only [decide_eq_true_eq, decide_eq_false_iff_not, Bool.or_eq_false_iff, Bool.and_eq_true, Bool.or_eq_true, Bool.and_eq_false_iff, Bool.not_eq_true', Bool.not_eq_false']; omega))
      exact again (k + 1) [] (.of rfl rfl rfl rfl rfl rfl) ⟨by omega, by omega, by omega⟩ (by omega)
    · have g4 : wordE s i = k := by
        rw [g3]
        by_cases h2 : k < s.size
        · have h' : (decide (k < (s.size : Int)) && Lx.alnum (bt s k)) = false := h
          rw [decide_eq_true h2, Bool.true_and] at h'
          rw [tl_cons g1 h2, run_cons, if_neg (by rw [h']; simp)]; omega
        · rw [tl_nil (by omega)]; simp [Lx.run]
      rw [g4]
      exact fin1 (fun _ _ => rfl)
def numE (s : ByteArray) (i : Int) : Int := atE i (Lx.numN (tl s i))
theorem numE_eq {s : ByteArray} {i : Int} (h0 : 0 ≤ i) (h1 : i < s.size) : numE s i =
    if bt s i = 46 then (if i + 1 < s.size ∧ Lx.digit (bt s (i + 1)) = true then i + 1 + 1 + Lx.runP (bt s (i + 1)) (tl s (i + 1 + 1)) else 0)
    else if Lx.digit (bt s i) = true then i + 1 + Lx.runP (bt s i) (tl s (i + 1)) else 0 := by
  unfold numE
  rw [tl_cons h0 h1]
  by_cases h46 : bt s i = 46
  · rw [if_pos h46]
    have hd : Lx.digit (bt s i) = false := by rw [h46]; rfl
    by_cases h2 : i + 1 < s.size
    · rw [tl_cons (by omega) h2]
      simp only [Lx.numN, hd, decide_eq_true h46]
      cases hd2 : Lx.digit (bt s (i + 1)) with
      | true => simp [atE, h2]; omega
      | false => simp [atE]
    · rw [tl_nil (by omega)]
      simp only [Lx.numN, hd]
      simp [atE, h2]
  · rw [if_neg h46]
    simp only [Lx.numN]
    cases hd : Lx.digit (bt s i) with
    | true => simp [atE]; omega
    | false => simp [atE, h46]
theorem expo_okc {c : Int} (h : Lx.expo c = true) (a : Int) : Lx.okp a c = true := by
  unfold Lx.expo at h
  simp only [Bool.or_eq_true, decide_eq_true_eq] at h
  unfold Lx.okp Lx.okc Lx.alnum Lx.letter
  rcases h with ((rfl | rfl) | rfl) | rfl <;> simp
theorem sign_expo {c : Int} (h : Lx.sign c = true) : Lx.expo c = false := by
  unfold Lx.sign at h
  simp only [Bool.or_eq_true, decide_eq_true_eq] at h
  rcases h with rfl | rfl <;> rfl
theorem digit_expo {c : Int} (h : Lx.digit c = true) : Lx.expo c = false := by
  unfold Lx.digit at h
  simp only [Bool.and_eq_true, decide_eq_true_eq] at h
  unfold Lx.expo
  rw [decide_eq_false (by omega), decide_eq_false (by omega), decide_eq_false (by omega), decide_eq_false (by omega)]; rfl
set_option maxRecDepth 100000 in
theorem num_any (s : ByteArray) (i : Int) (h0 : 0 ≤ i) (h1 : i < s.size) (hz : s.size ≤ 140737488355328) (w : World) :
    Calls Try.prog 168 #[.string s, .int .i64 i] w (PureP w fun v _ => v = .int .i64 (numE s i)) := by
  have hE := numE_eq h0 h1
  obtain ⟨N, hN⟩ : ∃ N, N = numE s i := ⟨_, rfl⟩
  rw [← hN] at hE ⊢
  refine x_fun tt_ok Try.func168 rfl rfl [] 0 [.v (.string s), .v (.int .i64 i)] rfl rfl rfl rfl (fun b hb => by cases hb) ?_
  refine x_vc tt_ok ?_
  repeat (refine And.intro ?_ ?_; first | omega | (simp only [Lay.d_n]; omega) | (simp only [decide_eq_true_eq, decide_eq_false_iff_not, Bool.or_eq_false_iff, Bool.and_eq_true, Bool.or_eq_true, Bool.and_eq_false_iff, Bool.not_eq_true', Bool.not_eq_false', Lay.d_n]; omega) | (simp only [decide_eq_true_eq, decide_eq_false_iff_not, Bool.or_eq_false_iff, Bool.and_eq_true, Bool.or_eq_true, Bool.and_eq_false_iff, Bool.not_eq_true', Bool.not_eq_false']; omega))
  refine x_if (fun h => ?_) (fun h => ?_)
  · have h46 : bt s i = 46 := of_decide_eq_true h
    rw [if_pos h46] at hE
    repeat (refine And.intro ?_ ?_; first | omega | (simp only [Lay.d_n]; omega) | (simp only [decide_eq_true_eq, decide_eq_false_iff_not, Bool.or_eq_false_iff, Bool.and_eq_true, Bool.or_eq_true, Bool.and_eq_false_iff, Bool.not_eq_true', Bool.not_eq_false', Lay.d_n]; omega) | (simp only [decide_eq_true_eq, decide_eq_false_iff_not, Bool.or_eq_false_iff, Bool.and_eq_true, Bool.or_eq_true, Bool.and_eq_false_iff, Bool.not_eq_true', Bool.not_eq_false']; omega))
    obtain ⟨j, hj⟩ : ∃ j, j = i + 1 := ⟨_, rfl⟩
    rw [← hj] at hE ⊢
    repeat (refine And.intro ?_ ?_; first | omega | (simp only [Lay.d_n]; omega) | (simp only [decide_eq_true_eq, decide_eq_false_iff_not, Bool.or_eq_false_iff, Bool.and_eq_true, Bool.or_eq_true, Bool.and_eq_false_iff, Bool.not_eq_true', Bool.not_eq_false', Lay.d_n]; omega) | (simp only [decide_eq_true_eq, decide_eq_false_iff_not, Bool.or_eq_false_iff, Bool.and_eq_true, Bool.or_eq_true, Bool.and_eq_false_iff, Bool.not_eq_true', Bool.not_eq_false']; omega))
    refine xl_gcall0 (.bool (Lx.digit (bt s j))) rfl rfl rfl rfl fn179 rfl rfl (fun _ E w F _ => digit_any _ w) ?_
    refine xl_go tt_ok ?_
    refine x_if (fun h => ?_) (fun h => ?_)
    · have hn : ¬ (j < (s.size : Int) ∧ Lx.digit (bt s j) = true) := by
        rintro ⟨ha, hb⟩
        have h' : (decide (j = (s.size : Int)) || !Lx.digit (bt s j)) = true := h
        rw [hb, decide_eq_false (by omega)] at h'
        cases h'
      rw [if_neg hn] at hE
      rw [hE]
      exact fin1 (fun _ _ => rfl)
    · have h' : (decide (j = (s.size : Int)) || !Lx.digit (bt s j)) = false := h
      obtain ⟨ha, hb⟩ := Bool.or_eq_false_iff.1 h'
      have ha' := of_decide_eq_false ha
      have hb' : Lx.digit (bt s j) = true := by simpa using hb
      rw [if_pos ⟨by omega, hb'⟩] at hE
      repeat (refine And.intro ?_ ?_; first | omega | (simp only [Lay.d_n]; omega) | (simp only [decide_eq_true_eq, decide_eq_false_iff_not, Bool.or_eq_false_iff, Bool.and_eq_true, Bool.or_eq_true, Bool.and_eq_false_iff, Bool.not_eq_true', Bool.not_eq_false', Lay.d_n]; omega) | (simp only [decide_eq_true_eq, decide_eq_false_iff_not, Bool.or_eq_false_iff, Bool.and_eq_true, Bool.or_eq_true, Bool.and_eq_false_iff, Bool.not_eq_true', Bool.not_eq_false']; omega))
      refine x_loop (σ := Int) (fun k => ⟨[(5, .v (.int .i64 k)), (0, .v (.string s))], [], [], 0⟩)
        (fun k _ => 1 ≤ k ∧ k ≤ s.size ∧ N = k + Lx.runP (bt s (k - 1)) (tl s k) ∧ (k < s.size → (Lx.expo (bt s (k - 1)) && Lx.sign (bt s k)) = false))
        (fun k => (s.size - k).toNat) (fun _ => Nat.le_refl _) (j + 1) [] (.of rfl rfl rfl rfl rfl rfl)
        ⟨by omega, by omega, by rw [show j + 1 - 1 = j by omega]; exact hE, fun _ => by rw [show j + 1 - 1 = j by omega, digit_expo hb']; rfl⟩ ?_
      clear hE
      rintro k u2 hu2 ⟨g1, g2, g3, g4⟩
      refine x_vc tt_ok ?_
      repeat (refine And.intro ?_ ?_; first | omega | (simp only [Lay.d_n]; omega) | (simp only [decide_eq_true_eq, decide_eq_false_iff_not, Bool.or_eq_false_iff, Bool.and_eq_true, Bool.or_eq_true, Bool.and_eq_false_iff, Bool.not_eq_true', Bool.not_eq_false', Lay.d_n]; omega) | (simp only [decide_eq_true_eq, decide_eq_false_iff_not, Bool.or_eq_false_iff, Bool.and_eq_true, Bool.or_eq_true, Bool.and_eq_false_iff, Bool.not_eq_true', Bool.not_eq_false']; omega))
      refine x_if (fun h5 => ?_) (fun h5 => ?_)
      · have h2 : k < s.size := of_decide_eq_true h5
        have g4 := g4 h2
        rw [tl_cons (by omega) h2, runP_cons] at g3
        repeat (refine And.intro ?_ ?_; first | omega | (simp only [Lay.d_n]; omega) | (simp only [decide_eq_true_eq, decide_eq_false_iff_not, Bool.or_eq_false_iff, Bool.and_eq_true, Bool.or_eq_true, Bool.and_eq_false_iff, Bool.not_eq_true', Bool.not_eq_false', Lay.d_n]; omega) | (simp only [decide_eq_true_eq, decide_eq_false_iff_not, Bool.or_eq_false_iff, Bool.and_eq_true, Bool.or_eq_true, Bool.and_eq_false_iff, Bool.not_eq_true', Bool.not_eq_false']; omega))
        refine x_if (fun h6 => ?_) (fun h6 => ?_)
        · have h6' : (Lx.expo (bt s k) && decide (k + 1 < (s.size : Int)) && Lx.sign (bt s (k + 1))) = true := h6
          obtain ⟨h7, h8⟩ := Bool.and_eq_true_iff.1 h6'
          obtain ⟨h9, h10⟩ := Bool.and_eq_true_iff.1 h7
          have h11 := of_decide_eq_true h10
          rw [if_pos (expo_okc h9 _), tl_cons (by omega) h11, runP_cons, if_pos (by unfold Lx.okp; rw [h8, h9]; simp)] at g3
          repeat (refine And.intro ?_ ?_; first | omega | (simp only [Lay.d_n]; omega) | (simp only [decide_eq_true_eq, decide_eq_false_iff_not, Bool.or_eq_false_iff, Bool.and_eq_true, Bool.or_eq_true, Bool.and_eq_false_iff, Bool.not_eq_true', Bool.not_eq_false', Lay.d_n]; omega) | (simp only [decide_eq_true_eq, decide_eq_false_iff_not, Bool.or_eq_false_iff, Bool.and_eq_true, Bool.or_eq_true, Bool.and_eq_false_iff, Bool.not_eq_true', Bool.not_eq_false']; omega))
          exact again (k + 2) [] (.of rfl rfl rfl rfl rfl rfl) ⟨by omega, by omega, by rw [show k + 2 - 1 = k + 1 by omega, show k + 2 = k + 1 + 1 by omega]; omega,
            fun _ => by rw [show k + 2 - 1 = k + 1 by omega, sign_expo h8]; rfl⟩ (by omega)
        · have h6' : (Lx.expo (bt s k) && decide (k + 1 < (s.size : Int)) && Lx.sign (bt s (k + 1))) = false := h6
          have next : Lx.okc (bt s k) = true → 1 ≤ k + 1 ∧ k + 1 ≤ s.size ∧ N = k + 1 + Lx.runP (bt s (k + 1 - 1)) (tl s (k + 1)) ∧ (k + 1 < s.size → (Lx.expo (bt s (k + 1 - 1)) && Lx.sign (bt s (k + 1))) = false) := by
            intro hc
            rw [if_pos (by unfold Lx.okp; rw [hc]; rfl)] at g3
            rw [show k + 1 - 1 = k by omega]
            refine ⟨by omega, by omega, by omega, fun h12 => ?_⟩
            rw [decide_eq_true h12, Bool.and_true] at h6'
            exact h6'
          refine xl_call0 (.bool (Lx.digit (bt s k))) rfl rfl rfl rfl fn179 rfl rfl (fun E w F _ => digit_any _ w) ?_
          refine xl_go tt_ok ?_
          refine x_if (fun h7 => ?_) (fun h7 => ?_)
          · refine x_ift h7 ?_
            repeat (refine And.intro ?_ ?_; first | omega | (simp only [Lay.d_n]; omega) | (simp only [decide_eq_true_eq, decide_eq_false_iff_not, Bool.or_eq_false_iff, Bool.and_eq_true, Bool.or_eq_true, Bool.and_eq_false_iff, Bool.not_eq_true', Bool.not_eq_false', Lay.d_n]; omega) | (simp only [decide_eq_true_eq, decide_eq_false_iff_not, Bool.or_eq_false_iff, Bool.and_eq_true, Bool.or_eq_true, Bool.and_eq_false_iff, Bool.not_eq_true', Bool.not_eq_false']; omega))
            exact again (k + 1) [] (.of rfl rfl rfl rfl rfl rfl) (next (by unfold Lx.okc Lx.alnum; rw [h7]; simp)) (by omega)
          · refine xl_call0 (.bool (Lx.letter (bt s k))) rfl rfl rfl rfl fn178 rfl rfl (fun E w F _ => letter_any _ w) ?_
            refine xl_go tt_ok ?_
            refine x_if (fun h8 => ?_) (fun h8 => ?_)
            · refine x_ift h8 ?_
              repeat (refine And.intro ?_ ?_; first | omega | (simp only [Lay.d_n]; omega) | (simp only [decide_eq_true_eq, decide_eq_false_iff_not, Bool.or_eq_false_iff, Bool.and_eq_true, Bool.or_eq_true, Bool.and_eq_false_iff, Bool.not_eq_true', Bool.not_eq_false', Lay.d_n]; omega) | (simp only [decide_eq_true_eq, decide_eq_false_iff_not, Bool.or_eq_false_iff, Bool.and_eq_true, Bool.or_eq_true, Bool.and_eq_false_iff, Bool.not_eq_true', Bool.not_eq_false']; omega))
              exact again (k + 1) [] (.of rfl rfl rfl rfl rfl rfl) (next (by unfold Lx.okc Lx.alnum; rw [h8]; simp)) (by omega)
            · refine x_if (fun h9 => ?_) (fun h9 => ?_)
              · repeat (refine And.intro ?_ ?_; first | omega | (simp only [Lay.d_n]; omega) | (simp only [decide_eq_true_eq, decide_eq_false_iff_not, Bool.or_eq_false_iff, Bool.and_eq_true, Bool.or_eq_true, Bool.and_eq_false_iff, Bool.not_eq_true', Bool.not_eq_false', Lay.d_n]; omega) | (simp only [decide_eq_true_eq, decide_eq_false_iff_not, Bool.or_eq_false_iff, Bool.and_eq_true, Bool.or_eq_true, Bool.and_eq_false_iff, Bool.not_eq_true', Bool.not_eq_false']; omega))
                exact again (k + 1) [] (.of rfl rfl rfl rfl rfl rfl) (next (by unfold Lx.okc Lx.alnum; rw [h9]; simp)) (by omega)
              · have hc : Lx.okp (bt s (k - 1)) (bt s k) = false := by
                  unfold Lx.okp Lx.okc Lx.alnum
                  rw [h7, h8, h9, Bool.and_comm (Lx.sign _), g4]; rfl
                rw [if_neg (by rw [hc]; simp)] at g3
                have e : N = k := by rw [g3]; simp
                rw [e]
                exact fin1 (fun _ _ => rfl)
      · have h2 : ¬ k < (s.size : Int) := of_decide_eq_false h5
        rw [tl_nil (by omega)] at g3
        have e : N = k := by rw [g3]; simp [Lx.runP]
        rw [e]
        exact fin1 (fun _ _ => rfl)
  · have h46 : ¬ bt s i = 46 := of_decide_eq_false h
    rw [if_neg h46] at hE
    have hE : N = if i < s.size ∧ Lx.digit (bt s i) = true then i + 1 + Lx.runP (bt s i) (tl s (i + 1)) else 0 := by
      rw [hE]; simp [h1]
    obtain ⟨j, hj⟩ : ∃ j, j = i := ⟨_, rfl⟩
    have hE : N = if j < s.size ∧ Lx.digit (bt s j) = true then j + 1 + Lx.runP (bt s j) (tl s (j + 1)) else 0 := by rw [hj]; exact hE
    rw [← hj]
    repeat (refine And.intro ?_ ?_; first | omega | (simp only [Lay.d_n]; omega) | (simp only [decide_eq_true_eq, decide_eq_false_iff_not, Bool.or_eq_false_iff, Bool.and_eq_true, Bool.or_eq_true, Bool.and_eq_false_iff, Bool.not_eq_true', Bool.not_eq_false', Lay.d_n]; omega) | (simp only [decide_eq_true_eq, decide_eq_false_iff_not, Bool.or_eq_false_iff, Bool.and_eq_true, Bool.or_eq_true, Bool.and_eq_false_iff, Bool.not_eq_true', Bool.not_eq_false']; omega))
    refine xl_gcall0 (.bool (Lx.digit (bt s j))) rfl rfl rfl rfl fn179 rfl rfl (fun _ E w F _ => digit_any _ w) ?_
    refine xl_go tt_ok ?_
    refine x_if (fun h => ?_) (fun h => ?_)
    · have hn : ¬ (j < (s.size : Int) ∧ Lx.digit (bt s j) = true) := by
        rintro ⟨ha, hb⟩
        have h' : (decide (j = (s.size : Int)) || !Lx.digit (bt s j)) = true := h
        rw [hb, decide_eq_false (by omega)] at h'
        cases h'
      rw [if_neg hn] at hE
      rw [hE]
      exact fin1 (fun _ _ => rfl)
    · have h' : (decide (j = (s.size : Int)) || !Lx.digit (bt s j)) = false := h
      obtain ⟨ha, hb⟩ := Bool.or_eq_false_iff.1 h'
      have ha' := of_decide_eq_false ha
      have hb' : Lx.digit (bt s j) = true := by simpa using hb
      rw [if_pos ⟨by omega, hb'⟩] at hE
      repeat (refine And.intro ?_ ?_; first | omega | (simp only [Lay.d_n]; omega) | (simp only [decide_eq_true_eq, decide_eq_false_iff_not, Bool.or_eq_false_iff, Bool.and_eq_true, Bool.or_eq_true, Bool.and_eq_false_iff, Bool.not_eq_true', Bool.not_eq_false', Lay.d_n]; omega) | (simp only [decide_eq_true_eq, decide_eq_false_iff_not, Bool.or_eq_false_iff, Bool.and_eq_true, Bool.or_eq_true, Bool.and_eq_false_iff, Bool.not_eq_true', Bool.not_eq_false']; omega))
      refine x_loop (σ := Int) (fun k => ⟨[(5, .v (.int .i64 k)), (0, .v (.string s))], [], [], 0⟩)
        (fun k _ => 1 ≤ k ∧ k ≤ s.size ∧ N = k + Lx.runP (bt s (k - 1)) (tl s k) ∧ (k < s.size → (Lx.expo (bt s (k - 1)) && Lx.sign (bt s k)) = false))
        (fun k => (s.size - k).toNat) (fun _ => Nat.le_refl _) (j + 1) [] (.of rfl rfl rfl rfl rfl rfl)
        ⟨by omega, by omega, by rw [show j + 1 - 1 = j by omega]; exact hE, fun _ => by rw [show j + 1 - 1 = j by omega, digit_expo hb']; rfl⟩ ?_
      clear hE
      rintro k u2 hu2 ⟨g1, g2, g3, g4⟩
      refine x_vc tt_ok ?_
      repeat (refine And.intro ?_ ?_; first | omega | (simp only [Lay.d_n]; omega) | (simp only [decide_eq_true_eq, decide_eq_false_iff_not, Bool.or_eq_false_iff, Bool.and_eq_true, Bool.or_eq_true, Bool.and_eq_false_iff, Bool.not_eq_true', Bool.not_eq_false', Lay.d_n]; omega) | (simp only [decide_eq_true_eq, decide_eq_false_iff_not, Bool.or_eq_false_iff, Bool.and_eq_true, Bool.or_eq_true, Bool.and_eq_false_iff, Bool.not_eq_true', Bool.not_eq_false']; omega))
      refine x_if (fun h5 => ?_) (fun h5 => ?_)
      · have h2 : k < s.size := of_decide_eq_true h5
        have g4 := g4 h2
        rw [tl_cons (by omega) h2, runP_cons] at g3
        repeat (refine And.intro ?_ ?_; first | omega | (simp only [Lay.d_n]; omega) | (simp only [decide_eq_true_eq, decide_eq_false_iff_not, Bool.or_eq_false_iff, Bool.and_eq_true, Bool.or_eq_true, Bool.and_eq_false_iff, Bool.not_eq_true', Bool.not_eq_false', Lay.d_n]; omega) | (simp only [decide_eq_true_eq, decide_eq_false_iff_not, Bool.or_eq_false_iff, Bool.and_eq_true, Bool.or_eq_true, Bool.and_eq_false_iff, Bool.not_eq_true', Bool.not_eq_false']; omega))
        refine x_if (fun h6 => ?_) (fun h6 => ?_)
        · have h6' : (Lx.expo (bt s k) && decide (k + 1 < (s.size : Int)) && Lx.sign (bt s (k + 1))) = true := h6
          obtain ⟨h7, h8⟩ := Bool.and_eq_true_iff.1 h6'
          obtain ⟨h9, h10⟩ := Bool.and_eq_true_iff.1 h7
          have h11 := of_decide_eq_true h10
          rw [if_pos (expo_okc h9 _), tl_cons (by omega) h11, runP_cons, if_pos (by unfold Lx.okp; rw [h8, h9]; simp)] at g3
          repeat (refine And.intro ?_ ?_; first | omega | (simp only [Lay.d_n]; omega) | (simp only [decide_eq_true_eq, decide_eq_false_iff_not, Bool.or_eq_false_iff, Bool.and_eq_true, Bool.or_eq_true, Bool.and_eq_false_iff, Bool.not_eq_true', Bool.not_eq_false', Lay.d_n]; omega) | (simp only [decide_eq_true_eq, decide_eq_false_iff_not, Bool.or_eq_false_iff, Bool.and_eq_true, Bool.or_eq_true, Bool.and_eq_false_iff, Bool.not_eq_true', Bool.not_eq_false']; omega))
          exact again (k + 2) [] (.of rfl rfl rfl rfl rfl rfl) ⟨by omega, by omega, by rw [show k + 2 - 1 = k + 1 by omega, show k + 2 = k + 1 + 1 by omega]; omega,
            fun _ => by rw [show k + 2 - 1 = k + 1 by omega, sign_expo h8]; rfl⟩ (by omega)
        · have h6' : (Lx.expo (bt s k) && decide (k + 1 < (s.size : Int)) && Lx.sign (bt s (k + 1))) = false := h6
          have next : Lx.okc (bt s k) = true → 1 ≤ k + 1 ∧ k + 1 ≤ s.size ∧ N = k + 1 + Lx.runP (bt s (k + 1 - 1)) (tl s (k + 1)) ∧ (k + 1 < s.size → (Lx.expo (bt s (k + 1 - 1)) && Lx.sign (bt s (k + 1))) = false) := by
            intro hc
            rw [if_pos (by unfold Lx.okp; rw [hc]; rfl)] at g3
            rw [show k + 1 - 1 = k by omega]
            refine ⟨by omega, by omega, by omega, fun h12 => ?_⟩
            rw [decide_eq_true h12, Bool.and_true] at h6'
            exact h6'
          refine xl_call0 (.bool (Lx.digit (bt s k))) rfl rfl rfl rfl fn179 rfl rfl (fun E w F _ => digit_any _ w) ?_
          refine xl_go tt_ok ?_
          refine x_if (fun h7 => ?_) (fun h7 => ?_)
          · refine x_ift h7 ?_
            repeat (refine And.intro ?_ ?_; first | omega | (simp only [Lay.d_n]; omega) | (simp only [decide_eq_true_eq, decide_eq_false_iff_not, Bool.or_eq_false_iff, Bool.and_eq_true, Bool.or_eq_true, Bool.and_eq_false_iff, Bool.not_eq_true', Bool.not_eq_false', Lay.d_n]; omega) | (simp only [decide_eq_true_eq, decide_eq_false_iff_not, Bool.or_eq_false_iff, Bool.and_eq_true, Bool.or_eq_true, Bool.and_eq_false_iff, Bool.not_eq_true', Bool.not_eq_false']; omega))
            exact again (k + 1) [] (.of rfl rfl rfl rfl rfl rfl) (next (by unfold Lx.okc Lx.alnum; rw [h7]; simp)) (by omega)
          · refine xl_call0 (.bool (Lx.letter (bt s k))) rfl rfl rfl rfl fn178 rfl rfl (fun E w F _ => letter_any _ w) ?_
            refine xl_go tt_ok ?_
            refine x_if (fun h8 => ?_) (fun h8 => ?_)
            · refine x_ift h8 ?_
              repeat (refine And.intro ?_ ?_; first | omega | (simp only [Lay.d_n]; omega) | (simp only [decide_eq_true_eq, decide_eq_false_iff_not, Bool.or_eq_false_iff, Bool.and_eq_true, Bool.or_eq_true, Bool.and_eq_false_iff, Bool.not_eq_true', Bool.not_eq_false', Lay.d_n]; omega) | (simp only [decide_eq_true_eq, decide_eq_false_iff_not, Bool.or_eq_false_iff, Bool.and_eq_true, Bool.or_eq_true, Bool.and_eq_false_iff, Bool.not_eq_true', Bool.not_eq_false']; omega))
              exact again (k + 1) [] (.of rfl rfl rfl rfl rfl rfl) (next (by unfold Lx.okc Lx.alnum; rw [h8]; simp)) (by omega)
            · refine x_if (fun h9 => ?_) (fun h9 => ?_)
              · repeat (refine And.intro ?_ ?_; first | omega | (simp only [Lay.d_n]; omega) | (simp only [decide_eq_true_eq, decide_eq_false_iff_not, Bool.or_eq_false_iff, Bool.and_eq_true, Bool.or_eq_true, Bool.and_eq_false_iff, Bool.not_eq_true', Bool.not_eq_false', Lay.d_n]; omega) | (simp only [decide_eq_true_eq, decide_eq_false_iff_not, Bool.or_eq_false_iff, Bool.and_eq_true, Bool.or_eq_true, Bool.and_eq_false_iff, Bool.not_eq_true', Bool.not_eq_false']; omega))
                exact again (k + 1) [] (.of rfl rfl rfl rfl rfl rfl) (next (by unfold Lx.okc Lx.alnum; rw [h9]; simp)) (by omega)
              · have hc : Lx.okp (bt s (k - 1)) (bt s k) = false := by
                  unfold Lx.okp Lx.okc Lx.alnum
                  rw [h7, h8, h9, Bool.and_comm (Lx.sign _), g4]; rfl
                rw [if_neg (by rw [hc]; simp)] at g3
                have e : N = k := by rw [g3]; simp
                rw [e]
                exact fin1 (fun _ _ => rfl)
      · have h2 : ¬ k < (s.size : Int) := of_decide_eq_false h5
        rw [tl_nil (by omega)] at g3
        have e : N = k := by rw [g3]; simp [Lx.runP]
        rw [e]
        exact fin1 (fun _ _ => rfl)
end Go.Proofs.Ytdonomneofdhfaa
namespace Go.Proofs.Ytdonomneofdhfaa
open Go.GV Go.RowKit
theorem bl_sub (s : ByteArray) {a b : Int} (h0 : 0 ≤ a) (h1 : a ≤ b) (h2 : b ≤ s.size) : bl (sub s a b) = (tl s a).take (b - a).toNat := by
  unfold bl sub tl bl
  rw [ByteArray.data_extract, Array.toList_extract, List.extract_eq_take_drop, List.map_take, List.map_drop, show b.toNat - a.toNat = (b - a).toNat by omega]
theorem bl_rest (s : ByteArray) {a : Int} (h0 : 0 ≤ a) (h1 : a ≤ s.size) : bl (sub s a s.size) = tl s a := by
  rw [bl_sub s h0 h1 (Int.le_refl _), List.take_of_length_le (by rw [tl_len]; omega)]
theorem bl_inj {a b : ByteArray} (h : bl a = bl b) : a = b := by
  have h2 : a.data.toList = b.data.toList := by
    unfold bl at h
    refine List.map_inj_right (f := fun b : UInt8 => (b.toNat : Int)) (fun x y hxy => ?_) |>.1 h
    exact UInt8.toNat_inj.1 (Int.ofNat.inj hxy)
  cases a; cases b
  simp only [ByteArray.mk.injEq]
  exact Array.toList_inj.1 h2
theorem bl_eq {a b : ByteArray} : decide (a = b) = decide (bl a = bl b) := by
  by_cases h : a = b
  · subst h; simp
  · rw [decide_eq_false h, decide_eq_false (fun h2 => h (bl_inj h2))]
def hasP (a b : ByteArray) : Bool := decide ((b.size : Int) ≤ a.size) && decide (sub a 0 b.size = b)
theorem hasP_bl (a b : ByteArray) : hasP a b = decide ((bl a).take b.size = bl b) := by
  unfold hasP
  by_cases h : (b.size : Int) ≤ a.size
  · rw [decide_eq_true h, Bool.true_and, bl_eq, bl_sub a (by omega) (by omega) h, tl_zero, Int.sub_zero, Int.toNat_natCast]
  · rw [decide_eq_false h, Bool.false_and]
    refine (decide_eq_false (fun h2 => h ?_)).symm
    have := congrArg List.length h2
    rw [List.length_take, bl_len, bl_len] at this
    omega
set_option maxRecDepth 100000 in
theorem hasPL_any (a b : ByteArray) (w : World) : Calls Try.prog 164 #[.string a, .string b] w (PureP w fun v _ => v = .bool (hasP a b)) := by
  refine x_fun tt_ok Try.func164 rfl rfl [] 0 [.v (.string a), .v (.string b)] rfl rfl rfl rfl (fun b hb => by cases hb) ?_
  refine x_vc tt_ok ?_
  repeat (refine And.intro ?_ ?_; first | omega | (simp only [Lay.d_n]; omega) | (simp only [decide_eq_true_eq, decide_eq_false_iff_not, Bool.or_eq_false_iff, Bool.and_eq_true, Bool.or_eq_true, Bool.and_eq_false_iff, Bool.not_eq_true', Bool.not_eq_false', Lay.d_n]; omega) | (simp only [decide_eq_true_eq, decide_eq_false_iff_not, Bool.or_eq_false_iff, Bool.and_eq_true, Bool.or_eq_true, Bool.and_eq_false_iff, Bool.not_eq_true', Bool.not_eq_false']; omega))
  exact fin1 (fun _ _ => rfl)
theorem hasP_any (a b : ByteArray) (w : World) : Calls Try.prog 151 #[.string a, .string b] w (PureP w fun v _ => v = .bool (hasP a b)) := by
  refine x_fun tt_ok Try.func151 rfl rfl [] 0 [.v (.string a), .v (.string b)] rfl rfl rfl rfl (fun b hb => by cases hb) ?_
  refine x_vc tt_ok ?_
  refine xl_call0 (.bool (hasP a b)) rfl rfl rfl rfl fn164 rfl rfl (fun E w F _ => hasPL_any _ _ w) ?_
  refine xl_go tt_ok ?_
  exact fin1 (fun _ _ => rfl)
def litE (s : ByteArray) (i : Int) : Int × Int := ((Lx.litQ (tl s i)).1, atE i (Lx.litQ (tl s i)).2)
def lE (q st e : Int) : Int × Int := if e = 0 then (0, 0) else if q = 34 then (4, e) else if e = st + 1 then (0, 0) else (3, e)
theorem tl_tl (s : ByteArray) {i : Int} (h0 : 0 ≤ i) (n : Nat) : (tl s i).drop n = tl s (i + n) := by
  unfold tl
  rw [List.drop_drop]; congr 1; omega
theorem litE_eq {s : ByteArray} {i : Int} (h0 : 0 ≤ i) {j : Int} (hj : j = i + Lx.prefN (tl s i)) : litE s i =
    if j < s.size ∧ (bt s j = 34 ∨ bt s j = 39) then lE (bt s j) (j + 1) (atE (j + 1) (Lx.bodyN (bt s j) (tl s (j + 1)))) else (0, 0) := by
  unfold litE Lx.litQ
  rw [tl_tl s h0, ← hj]
  by_cases h2 : j < s.size
  · rw [tl_cons (by omega) h2]
    simp only [h2, true_and]
    by_cases h34 : bt s j = 34
    · rw [if_pos h34, if_pos (.inl h34)]
      cases hb : Lx.bodyN 34 (tl s (j + 1)) with
      | zero => simp [h34, hb, atE, lE]
      | succ n =>
        simp [h34, hb, atE, lE]
        rw [if_neg (by omega)]
        simp only [Prod.mk.injEq, true_and]; omega
    · rw [if_neg h34]
      by_cases h39 : bt s j = 39
      · rw [if_pos h39, if_pos (.inr h39)]
        cases hb : Lx.bodyN 39 (tl s (j + 1)) with
        | zero => simp [h39, hb, atE, lE]
        | succ n =>
          cases n with
          | zero => simp [h39, hb, atE, lE]
          | succ n =>
            simp [h39, hb, atE, lE]
            rw [if_neg (by omega), if_neg (by omega)]
            simp only [Prod.mk.injEq, true_and]; omega
      · rw [if_neg h39, if_neg (by simp [h34, h39])]; rfl
  · rw [tl_nil (by omega), if_neg (by simp [h2])]; rfl
theorem bodyN_cons (q c : Int) (r : Lx.Bs) : Lx.bodyN q (c :: r) = if c = 10 then 0 else if c = q then 1 else if c = 92 then
    (match r with
      | [] => 0
      | d :: r' => if d = 10 then 0 else if Lx.bodyN q r' = 0 then 0 else Lx.bodyN q r' + 1 + 1)
    else if Lx.bodyN q r = 0 then 0 else Lx.bodyN q r + 1 := by
  cases r with
  | nil =>
    simp only [Lx.bodyN]
    by_cases h1 : c = 10
    · simp [h1]
    · by_cases h2 : c = q
      · subst h2; simp [h1]
      · simp [h1, h2]
  | cons d r =>
    simp only [Lx.bodyN]
    by_cases h1 : c = 10
    · simp [h1]
    · by_cases h2 : c = q
      · subst h2; simp [h1]
      · by_cases h3 : c = 92
        · subst h3
          simp only [h1, h2, decide_false, if_false, decide_true, if_true]
          by_cases h4 : d = 10
          · simp [h4]
          · simp only [h4, decide_false, if_false]
            cases Lx.bodyN q r <;> simp
        · simp only [h1, h2, h3, decide_false, if_false]
          cases Lx.bodyN q (d :: r) <;> simp
theorem atE_up2 (k : Int) (n : Nat) : atE k (if n = 0 then 0 else n + 1 + 1) = atE (k + 2) n := by
  unfold atE
  by_cases h : n = 0
  · simp [h]
  · simp [h]; omega
theorem prefN_eq {s : ByteArray} {i : Int} (h0 : 0 ≤ i) (h1 : i < s.size) : Lx.prefN (tl s i) =
    if hasP (sub s i s.size) ⟨#[117, 56, 34]⟩ = true then 2 else if (decide (bt s i = 117) || (decide (bt s i = 85) || decide (bt s i = 76))) = true then 1 else 0 := by
  rw [hasP_bl, bl_rest s h0 (by omega), tl_cons h0 h1]
  have e : decide (List.take (ByteArray.mk #[117, 56, 34]).size (bt s i :: tl s (i + 1)) = bl ⟨#[117, 56, 34]⟩) =
      (decide (bt s i = 117) && decide ((tl s (i + 1)).head? = some 56) && decide ((tl s (i + 1))[1]? = some 34)) := by
    show decide ((bt s i :: tl s (i + 1)).take 3 = [117, 56, 34]) = _
    match tl s (i + 1) with
    | [] => simp
    | [d] => simp
    | d :: e :: r => simp [Bool.and_assoc]
  rw [e]
  simp only [Lx.prefN]
  cases (decide (bt s i = 117) && decide ((tl s (i + 1)).head? = some 56) && decide ((tl s (i + 1))[1]? = some 34)) with
  | true => simp
  | false =>
    simp only [Bool.false_eq_true, if_false, ← Bool.or_assoc]
    cases (decide (bt s i = 117) || decide (bt s i = 85) || decide (bt s i = 76)) <;> simp
theorem prefN_len (l : Lx.Bs) : Lx.prefN l ≤ l.length := by
  cases l with
  | nil => exact Nat.le_refl _
  | cons c r =>
    simp only [Lx.prefN, List.length_cons]
    split
    · rename_i h
      simp only [Bool.and_eq_true, decide_eq_true_eq] at h
      cases r with
      | nil => simp at h
      | cons d r => simp
    · split <;> omega
set_option maxRecDepth 100000 in
theorem lit_any (s : ByteArray) (i : Int) (h0 : 0 ≤ i) (h1 : i < s.size) (hz : s.size ≤ 140737488355328) (w : World) :
    Calls Try.prog 166 #[.string s, .int .i64 i] w (PureP w fun v _ => v = .tuple #[.int .i64 (litE s i).1, .int .i64 (litE s i).2]) := by
  have hP := prefN_eq h0 h1
  refine x_fun tt_ok Try.func166 rfl rfl [] 0 [.v (.string s), .v (.int .i64 i)] rfl rfl rfl rfl (fun b hb => by cases hb) ?_
  refine x_seq ?_
  refine x_vc tt_ok ?_
  refine x_seq ?_
  refine x_vc tt_ok ?_
  refine x_cut (σ := Int) (fun j => ⟨[(6, .v (.int .i64 j)), (0, .v (.string s))], [], [], 0⟩)
    (fun j _ => j = i + Lx.prefN (tl s i)) (fun _ => Nat.le_refl _) ?_ ?_
  · refine x_vc tt_ok ?_
    repeat (refine And.intro ?_ ?_; first | omega | (simp only [Lay.d_n]; omega) | (simp only [decide_eq_true_eq, decide_eq_false_iff_not, Bool.or_eq_false_iff, Bool.and_eq_true, Bool.or_eq_true, Bool.and_eq_false_iff, Bool.not_eq_true', Bool.not_eq_false', Lay.d_n]; omega) | (simp only [decide_eq_true_eq, decide_eq_false_iff_not, Bool.or_eq_false_iff, Bool.and_eq_true, Bool.or_eq_true, Bool.and_eq_false_iff, Bool.not_eq_true', Bool.not_eq_false']; omega))
    refine xl_call0 (.bool (hasP (sub s i s.size) ⟨#[117, 56, 34]⟩)) rfl rfl rfl rfl fn151 rfl rfl (fun E w F _ => hasP_any _ _ w) ?_
    refine xl_go tt_ok ?_
    refine x_if (fun h => ?_) (fun h => ?_)
    · rw [if_pos h] at hP
      repeat (refine And.intro ?_ ?_; first | omega | (simp only [Lay.d_n]; omega) | (simp only [decide_eq_true_eq, decide_eq_false_iff_not, Bool.or_eq_false_iff, Bool.and_eq_true, Bool.or_eq_true, Bool.and_eq_false_iff, Bool.not_eq_true', Bool.not_eq_false', Lay.d_n]; omega) | (simp only [decide_eq_true_eq, decide_eq_false_iff_not, Bool.or_eq_false_iff, Bool.and_eq_true, Bool.or_eq_true, Bool.and_eq_false_iff, Bool.not_eq_true', Bool.not_eq_false']; omega))
      exact meet (i + 2) [] (.of rfl rfl rfl rfl rfl rfl) (by rw [hP]; rfl)
    · rw [if_neg (by rw [h]; simp)] at hP
      repeat (refine And.intro ?_ ?_; first | omega | (simp only [Lay.d_n]; omega) | (simp only [decide_eq_true_eq, decide_eq_false_iff_not, Bool.or_eq_false_iff, Bool.and_eq_true, Bool.or_eq_true, Bool.and_eq_false_iff, Bool.not_eq_true', Bool.not_eq_false', Lay.d_n]; omega) | (simp only [decide_eq_true_eq, decide_eq_false_iff_not, Bool.or_eq_false_iff, Bool.and_eq_true, Bool.or_eq_true, Bool.and_eq_false_iff, Bool.not_eq_true', Bool.not_eq_false']; omega))
      refine x_if (fun h2 => ?_) (fun h2 => ?_)
      · rw [h2, if_pos (by simp)] at hP
        refine x_ift h2 ?_
        repeat (refine And.intro ?_ ?_; first | omega | (simp only [Lay.d_n]; omega) | (simp only [decide_eq_true_eq, decide_eq_false_iff_not, Bool.or_eq_false_iff, Bool.and_eq_true, Bool.or_eq_true, Bool.and_eq_false_iff, Bool.not_eq_true', Bool.not_eq_false', Lay.d_n]; omega) | (simp only [decide_eq_true_eq, decide_eq_false_iff_not, Bool.or_eq_false_iff, Bool.and_eq_true, Bool.or_eq_true, Bool.and_eq_false_iff, Bool.not_eq_true', Bool.not_eq_false']; omega))
        exact meet (i + 1) [] (.of rfl rfl rfl rfl rfl rfl) (by rw [hP]; rfl)
      · repeat (refine And.intro ?_ ?_; first | omega | (simp only [Lay.d_n]; omega) | (simp only [decide_eq_true_eq, decide_eq_false_iff_not, Bool.or_eq_false_iff, Bool.and_eq_true, Bool.or_eq_true, Bool.and_eq_false_iff, Bool.not_eq_true', Bool.not_eq_false', Lay.d_n]; omega) | (simp only [decide_eq_true_eq, decide_eq_false_iff_not, Bool.or_eq_false_iff, Bool.and_eq_true, Bool.or_eq_true, Bool.and_eq_false_iff, Bool.not_eq_true', Bool.not_eq_false']; omega))
        refine x_if (fun h3 => ?_) (fun h3 => ?_)
        · rw [h2, h3, if_pos (by simp)] at hP
          refine x_ift h3 ?_
          repeat (refine And.intro ?_ ?_; first | omega | (simp only [Lay.d_n]; omega) | (simp only [decide_eq_true_eq, decide_eq_false_iff_not, Bool.or_eq_false_iff, Bool.and_eq_true, Bool.or_eq_true, Bool.and_eq_false_iff, Bool.not_eq_true', Bool.not_eq_false', Lay.d_n]; omega) | (simp only [decide_eq_true_eq, decide_eq_false_iff_not, Bool.or_eq_false_iff, Bool.and_eq_true, Bool.or_eq_true, Bool.and_eq_false_iff, Bool.not_eq_true', Bool.not_eq_false']; omega))
          exact meet (i + 1) [] (.of rfl rfl rfl rfl rfl rfl) (by rw [hP]; rfl)
        · repeat (refine And.intro ?_ ?_; first | omega | (simp only [Lay.d_n]; omega) | (simp only [decide_eq_true_eq, decide_eq_false_iff_not, Bool.or_eq_false_iff, Bool.and_eq_true, Bool.or_eq_true, Bool.and_eq_false_iff, Bool.not_eq_true', Bool.not_eq_false', Lay.d_n]; omega) | (simp only [decide_eq_true_eq, decide_eq_false_iff_not, Bool.or_eq_false_iff, Bool.and_eq_true, Bool.or_eq_true, Bool.and_eq_false_iff, Bool.not_eq_true', Bool.not_eq_false']; omega))
          refine x_if (fun h4 => ?_) (fun h4 => ?_)
          · rw [h2, h3, h4, if_pos (by simp)] at hP
            repeat (refine And.intro ?_ ?_; first | omega | (simp only [Lay.d_n]; omega) | (simp only [decide_eq_true_eq, decide_eq_false_iff_not, Bool.or_eq_false_iff, Bool.and_eq_true, Bool.or_eq_true, Bool.and_eq_false_iff, Bool.not_eq_true', Bool.not_eq_false', Lay.d_n]; omega) | (simp only [decide_eq_true_eq, decide_eq_false_iff_not, Bool.or_eq_false_iff, Bool.and_eq_true, Bool.or_eq_true, Bool.and_eq_false_iff, Bool.not_eq_true', Bool.not_eq_false']; omega))
            exact meet (i + 1) [] (.of rfl rfl rfl rfl rfl rfl) (by rw [hP]; rfl)
          · rw [h2, h3, h4, if_neg (by simp)] at hP
            exact meet i [] (.of rfl rfl rfl rfl rfl rfl) (by rw [hP]; exact (Int.add_zero _).symm)
  · rintro j u hu hj
    have hE := litE_eq h0 hj
    have hj0 : 0 ≤ j := by omega
    have hjl : j ≤ s.size := by
      have := prefN_len (tl s i)
      rw [tl_len] at this
      omega
    clear hP hj
    obtain ⟨N, hN⟩ : ∃ N, N = litE s i := ⟨_, rfl⟩
    rw [← hN] at hE ⊢
    refine x_vc tt_ok ?_
    repeat (refine And.intro ?_ ?_; first | omega | (simp only [Lay.d_n]; omega) | (simp only [decide_eq_true_eq, decide_eq_false_iff_not, Bool.or_eq_false_iff, Bool.and_eq_true, Bool.or_eq_true, Bool.and_eq_false_iff, Bool.not_eq_true', Bool.not_eq_false', Lay.d_n]; omega) | (simp only [decide_eq_true_eq, decide_eq_false_iff_not, Bool.or_eq_false_iff, Bool.and_eq_true, Bool.or_eq_true, Bool.and_eq_false_iff, Bool.not_eq_true', Bool.not_eq_false']; omega))
    refine x_if (fun h => ?_) (fun h => ?_)
    · have hn : ¬ (j < (s.size : Int) ∧ (bt s j = 34 ∨ bt s j = 39)) := by
        rintro ⟨ha, hb⟩
        have h' : (decide (j = (s.size : Int)) || (decide (bt s j ≠ 39) && decide (bt s j ≠ 34))) = true := h
        rw [decide_eq_false (by omega)] at h'
        simp only [Bool.false_or, Bool.and_eq_true, decide_eq_true_eq] at h'
        omega
      rw [if_neg hn] at hE
      rw [hE]
      exact fin1 (fun _ _ => rfl)
    · have h' : (decide (j = (s.size : Int)) || (decide (bt s j ≠ 39) && decide (bt s j ≠ 34))) = false := h
      obtain ⟨ha, hb⟩ := Bool.or_eq_false_iff.1 h'
      have ha' := of_decide_eq_false ha
      have hq : bt s j = 34 ∨ bt s j = 39 := by
        by_cases h39 : bt s j = 39
        · exact .inr h39
        · rw [decide_eq_true h39, Bool.true_and] at hb
          exact .inl (Classical.not_not.1 (of_decide_eq_false hb))
      rw [if_pos ⟨by omega, hq⟩] at hE
      clear hb h h' ha
      refine x_draw mix (by kernel_rfl) (xd_go tt_ok ?_)
      repeat (refine And.intro ?_ ?_; first | omega | (simp only [Lay.d_n]; omega) | (simp only [decide_eq_true_eq, decide_eq_false_iff_not, Bool.or_eq_false_iff, Bool.and_eq_true, Bool.or_eq_true, Bool.and_eq_false_iff, Bool.not_eq_true', Bool.not_eq_false', Lay.d_n]; omega) | (simp only [decide_eq_true_eq, decide_eq_false_iff_not, Bool.or_eq_false_iff, Bool.and_eq_true, Bool.or_eq_true, Bool.and_eq_false_iff, Bool.not_eq_true', Bool.not_eq_false']; omega))
      refine x_vc tt_ok ?_
      generalize bt s j = q at hE hq ⊢
      refine x_loop (σ := Int) (fun k => ⟨[(8, .v (.int .u8 q)), (7, .v (.int .i64 (j + 1))), (6, .v (.int .i64 k)), (0, .v (.string s))], [], [], 0⟩)
        (fun k _ => j + 1 ≤ k ∧ k ≤ s.size ∧ N = lE q (j + 1) (atE k (Lx.bodyN q (tl s k)))) (fun k => (s.size - k).toNat) (fun _ => Nat.le_refl _) (j + 1) [] (.of rfl rfl rfl rfl rfl rfl)
        ⟨by omega, by omega, hE⟩ ?_
      clear hE
      rintro k u2 hu2 ⟨g1, g2, g3⟩
      refine x_vc tt_ok ?_
      repeat (refine And.intro ?_ ?_; first | omega | (simp only [Lay.d_n]; omega) | (simp only [decide_eq_true_eq, decide_eq_false_iff_not, Bool.or_eq_false_iff, Bool.and_eq_true, Bool.or_eq_true, Bool.and_eq_false_iff, Bool.not_eq_true', Bool.not_eq_false', Lay.d_n]; omega) | (simp only [decide_eq_true_eq, decide_eq_false_iff_not, Bool.or_eq_false_iff, Bool.and_eq_true, Bool.or_eq_true, Bool.and_eq_false_iff, Bool.not_eq_true', Bool.not_eq_false']; omega))
      refine x_if (fun h => ?_) (fun h => ?_)
      · obtain ⟨hc, hb⟩ := Bool.and_eq_true_iff.1 h
        have h2 : k < s.size := of_decide_eq_true hc
        have h3 : ¬ bt s k = 10 := of_decide_eq_true hb
        rw [tl_cons (by omega) h2, bodyN_cons, if_neg h3] at g3
        repeat (refine And.intro ?_ ?_; first | omega | (simp only [Lay.d_n]; omega) | (simp only [decide_eq_true_eq, decide_eq_false_iff_not, Bool.or_eq_false_iff, Bool.and_eq_true, Bool.or_eq_true, Bool.and_eq_false_iff, Bool.not_eq_true', Bool.not_eq_false', Lay.d_n]; omega) | (simp only [decide_eq_true_eq, decide_eq_false_iff_not, Bool.or_eq_false_iff, Bool.and_eq_true, Bool.or_eq_true, Bool.and_eq_false_iff, Bool.not_eq_true', Bool.not_eq_false']; omega))
        refine x_if (fun h5 => ?_) (fun h5 => ?_)
        · obtain ⟨h6, h7⟩ := Bool.and_eq_true_iff.1 h5
          have h6 : bt s k = q := of_decide_eq_true h6
          have h7 : q = 34 := of_decide_eq_true h7
          rw [if_pos h6, atE_one, lE, if_neg (by omega), if_pos h7] at g3
          repeat (refine And.intro ?_ ?_; first | omega | (simp only [Lay.d_n]; omega) | (simp only [decide_eq_true_eq, decide_eq_false_iff_not, Bool.or_eq_false_iff, Bool.and_eq_true, Bool.or_eq_true, Bool.and_eq_false_iff, Bool.not_eq_true', Bool.not_eq_false', Lay.d_n]; omega) | (simp only [decide_eq_true_eq, decide_eq_false_iff_not, Bool.or_eq_false_iff, Bool.and_eq_true, Bool.or_eq_true, Bool.and_eq_false_iff, Bool.not_eq_true', Bool.not_eq_false']; omega))
          rw [g3]
          exact fin1 (fun _ _ => rfl)
        · repeat (refine And.intro ?_ ?_; first | omega | (simp only [Lay.d_n]; omega) | (simp only [decide_eq_true_eq, decide_eq_false_iff_not, Bool.or_eq_false_iff, Bool.and_eq_true, Bool.or_eq_true, Bool.and_eq_false_iff, Bool.not_eq_true', Bool.not_eq_false', Lay.d_n]; omega) | (simp only [decide_eq_true_eq, decide_eq_false_iff_not, Bool.or_eq_false_iff, Bool.and_eq_true, Bool.or_eq_true, Bool.and_eq_false_iff, Bool.not_eq_true', Bool.not_eq_false']; omega))
          refine x_if (fun h8 => ?_) (fun h8 => ?_)
          · obtain ⟨h6, h7⟩ := Bool.and_eq_true_iff.1 h8
            have h6' : bt s k = q := of_decide_eq_true h6
            have h9 : j + 1 < k := of_decide_eq_true h7
            have h10 : ¬ q = 34 := fun h => by
              have h5' : (decide (bt s k = q) && decide (q = 34)) = false := h5
              rw [h6, decide_eq_true h] at h5'; cases h5'
            rw [if_pos h6', atE_one, lE, if_neg (by omega), if_neg h10, if_neg (by omega)] at g3
            repeat (refine And.intro ?_ ?_; first | omega | (simp only [Lay.d_n]; omega) | (simp only [decide_eq_true_eq, decide_eq_false_iff_not, Bool.or_eq_false_iff, Bool.and_eq_true, Bool.or_eq_true, Bool.and_eq_false_iff, Bool.not_eq_true', Bool.not_eq_false', Lay.d_n]; omega) | (simp only [decide_eq_true_eq, decide_eq_false_iff_not, Bool.or_eq_false_iff, Bool.and_eq_true, Bool.or_eq_true, Bool.and_eq_false_iff, Bool.not_eq_true', Bool.not_eq_false']; omega))
            rw [g3]
            exact fin1 (fun _ _ => rfl)
          · repeat (refine And.intro ?_ ?_; first | omega | (simp only [Lay.d_n]; omega) | (simp only [decide_eq_true_eq, decide_eq_false_iff_not, Bool.or_eq_false_iff, Bool.and_eq_true, Bool.or_eq_true, Bool.and_eq_false_iff, Bool.not_eq_true', Bool.not_eq_false', Lay.d_n]; omega) | (simp only [decide_eq_true_eq, decide_eq_false_iff_not, Bool.or_eq_false_iff, Bool.and_eq_true, Bool.or_eq_true, Bool.and_eq_false_iff, Bool.not_eq_true', Bool.not_eq_false']; omega))
            refine x_if (fun h11 => ?_) (fun h11 => ?_)
            · have h6' : bt s k = q := of_decide_eq_true h11
              have h10 : ¬ q = 34 := fun h => by
                have h5' : (decide (bt s k = q) && decide (q = 34)) = false := h5
                rw [h11, decide_eq_true h] at h5'; cases h5'
              have h12 : ¬ j + 1 < k := fun h => by
                have h8' : (decide (bt s k = q) && decide (j + 1 < k)) = false := h8
                rw [h11, decide_eq_true h] at h8'; cases h8'
              rw [if_pos h6', atE_one, lE, if_neg (by omega), if_neg h10, if_pos (by omega)] at g3
              rw [g3]
              exact fin1 (fun _ _ => rfl)
            · rw [if_neg (of_decide_eq_false h11)] at g3
              repeat (refine And.intro ?_ ?_; first | omega | (simp only [Lay.d_n]; omega) | (simp only [decide_eq_true_eq, decide_eq_false_iff_not, Bool.or_eq_false_iff, Bool.and_eq_true, Bool.or_eq_true, Bool.and_eq_false_iff, Bool.not_eq_true', Bool.not_eq_false', Lay.d_n]; omega) | (simp only [decide_eq_true_eq, decide_eq_false_iff_not, Bool.or_eq_false_iff, Bool.and_eq_true, Bool.or_eq_true, Bool.and_eq_false_iff, Bool.not_eq_true', Bool.not_eq_false']; omega))
              refine x_if (fun h12 => ?_) (fun h12 => ?_)
              · have h12' : (decide (bt s k = 92) && decide (k + 1 < (s.size : Int)) && decide (bt s (k + 1) ≠ 10)) = true := h12
                obtain ⟨h13, h14⟩ := Bool.and_eq_true_iff.1 h12'
                obtain ⟨h15, h16⟩ := Bool.and_eq_true_iff.1 h13
                have h16' := of_decide_eq_true h16
                rw [if_pos (of_decide_eq_true h15), tl_cons (by omega) h16'] at g3
                simp only at g3
                rw [if_neg (of_decide_eq_true h14), atE_up2] at g3
                repeat (refine And.intro ?_ ?_; first | omega | (simp only [Lay.d_n]; omega) | (simp only [decide_eq_true_eq, decide_eq_false_iff_not, Bool.or_eq_false_iff, Bool.and_eq_true, Bool.or_eq_true, Bool.and_eq_false_iff, Bool.not_eq_true', Bool.not_eq_false', Lay.d_n]; omega) | (simp only [decide_eq_true_eq, decide_eq_false_iff_not, Bool.or_eq_false_iff, Bool.and_eq_true, Bool.or_eq_true, Bool.and_eq_false_iff, Bool.not_eq_true', Bool.not_eq_false']; omega))
                refine again (k + 1 + 1) [] (.of rfl rfl rfl rfl rfl rfl) ⟨by omega, by omega, ?_⟩ (by omega)
                rw [show k + 1 + 1 = k + 2 by omega] at g3 ⊢
                exact g3
              · repeat (refine And.intro ?_ ?_; first | omega | (simp only [Lay.d_n]; omega) | (simp only [decide_eq_true_eq, decide_eq_false_iff_not, Bool.or_eq_false_iff, Bool.and_eq_true, Bool.or_eq_true, Bool.and_eq_false_iff, Bool.not_eq_true', Bool.not_eq_false', Lay.d_n]; omega) | (simp only [decide_eq_true_eq, decide_eq_false_iff_not, Bool.or_eq_false_iff, Bool.and_eq_true, Bool.or_eq_true, Bool.and_eq_false_iff, Bool.not_eq_true', Bool.not_eq_false']; omega))
                refine x_if (fun h17 => ?_) (fun h17 => ?_)
                · have h92 := of_decide_eq_true h17
                  rw [if_pos h92] at g3
                  have h12' : (decide (bt s k = 92) && decide (k + 1 < (s.size : Int)) && decide (bt s (k + 1) ≠ 10)) = false := h12
                  rw [h17, Bool.true_and] at h12'
                  have e : N = (0, 0) := by
                    rw [g3]
                    by_cases h18 : k + 1 < s.size
                    · rw [decide_eq_true h18, Bool.true_and] at h12'
                      rw [tl_cons (by omega) h18]
                      simp only
                      rw [if_pos (Classical.not_not.1 (of_decide_eq_false h12'))]; rfl
                    · rw [tl_nil (by omega)]; rfl
                  rw [e]
                  exact fin1 (fun _ _ => rfl)
                · rw [if_neg (of_decide_eq_false h17), atE_up] at g3
                  repeat (refine And.intro ?_ ?_; first | omega | (simp only [Lay.d_n]; omega) | (simp only [decide_eq_true_eq, decide_eq_false_iff_not, Bool.or_eq_false_iff, Bool.and_eq_true, Bool.or_eq_true, Bool.and_eq_false_iff, Bool.not_eq_true', Bool.not_eq_false', Lay.d_n]; omega) | (simp only [decide_eq_true_eq, decide_eq_false_iff_not, Bool.or_eq_false_iff, Bool.and_eq_true, Bool.or_eq_true, Bool.and_eq_false_iff, Bool.not_eq_true', Bool.not_eq_false']; omega))
                  exact again (k + 1) [] (.of rfl rfl rfl rfl rfl rfl) ⟨by omega, by omega, g3⟩ (by omega)
      · have e : N = (0, 0) := by
          rw [g3]
          by_cases h2 : k < s.size
          · have h' : (decide (k < (s.size : Int)) && decide (bt s k ≠ 10)) = false := h
            rw [decide_eq_true h2, Bool.true_and] at h'
            rw [tl_cons (by omega) h2, bodyN_cons, if_pos (Classical.not_not.1 (of_decide_eq_false h'))]; rfl
          · rw [tl_nil (by omega)]; rfl
        rw [e]
        exact fin1 (fun _ _ => rfl)
end Go.Proofs.Ytdonomneofdhfaa
namespace Go.Proofs.Ytdonomneofdhfaa
open Go.GV Go.RowKit
theorem isWord_cons (c : Int) (r : Lx.Bs) : Lx.isWord (c :: r) = (Lx.letter c && r.all Lx.alnum) := rfl
set_option maxRecDepth 100000 in
theorem isWord_any (s : ByteArray) (hz : s.size ≤ 140737488355328) (w : World) : Calls Try.prog 170 #[.string s] w (PureP w fun v _ => v = .bool (Lx.isWord (bl s))) := by
  obtain ⟨N, hN⟩ : ∃ N, N = Lx.isWord (bl s) := ⟨_, rfl⟩
  rw [← hN]
  refine x_fun tt_ok Try.func170 rfl rfl [] 0 [.v (.string s)] rfl rfl rfl rfl (fun b hb => by cases hb) ?_
  refine x_vc tt_ok ?_
  refine x_loop (σ := Int) (fun k => ⟨[(3, .v (.int .i64 k)), (0, .v (.string s))], [], [], 0⟩)
    (fun k _ => 0 ≤ k ∧ k ≤ s.size ∧ (0 < k → N = (tl s k).all Lx.alnum)) (fun k => (s.size - k).toNat) (fun _ => Nat.le_refl _) 0 [] (.of rfl rfl rfl rfl rfl rfl)
    ⟨by omega, by omega, fun h => absurd h (by omega)⟩ ?_
  rintro k u hu ⟨g1, g2, g3⟩
  refine x_vc tt_ok ?_
  refine x_if (fun h => ?_) (fun h => ?_)
  · have h2 : k < s.size := of_decide_eq_true h
    repeat (refine And.intro ?_ ?_; first | omega | (simp only [Lay.d_n]; omega) | (simp only [decide_eq_true_eq, decide_eq_false_iff_not, Bool.or_eq_false_iff, Bool.and_eq_true, Bool.or_eq_true, Bool.and_eq_false_iff, Bool.not_eq_true', Bool.not_eq_false', Lay.d_n]; omega) | (simp only [decide_eq_true_eq, decide_eq_false_iff_not, Bool.or_eq_false_iff, Bool.and_eq_true, Bool.or_eq_true, Bool.and_eq_false_iff, Bool.not_eq_true', Bool.not_eq_false']; omega))
    refine xl_call0 (.bool (Lx.letter (bt s k))) rfl rfl rfl rfl fn181 rfl rfl (fun E w F _ => letterR_any _ w) ?_
    refine xl_go tt_ok ?_
    repeat (refine And.intro ?_ ?_; first | omega | (simp only [Lay.d_n]; omega) | (simp only [decide_eq_true_eq, decide_eq_false_iff_not, Bool.or_eq_false_iff, Bool.and_eq_true, Bool.or_eq_true, Bool.and_eq_false_iff, Bool.not_eq_true', Bool.not_eq_false', Lay.d_n]; omega) | (simp only [decide_eq_true_eq, decide_eq_false_iff_not, Bool.or_eq_false_iff, Bool.and_eq_true, Bool.or_eq_true, Bool.and_eq_false_iff, Bool.not_eq_true', Bool.not_eq_false']; omega))
    refine xl_gcall0 (.bool (Lx.digit (bt s k))) rfl rfl rfl rfl fn182 rfl rfl (fun _ E w F _ => digitR_any _ w) ?_
    refine xl_go tt_ok ?_
    have key : N = if k = 0 then (Lx.letter (bt s k) && (tl s (k + 1)).all Lx.alnum) else (Lx.alnum (bt s k) && (tl s (k + 1)).all Lx.alnum) := by
      by_cases hk : k = 0
      · subst hk
        rw [if_pos rfl, hN, ← tl_zero, tl_cons (by omega) h2]; rfl
      · rw [if_neg hk, g3 (by omega), tl_cons g1 h2]; rfl
    refine x_if (fun h3 => ?_) (fun h3 => ?_)
    · have h3' : (!Lx.letter (bt s k) && (decide (k = 0) || !Lx.digit (bt s k))) = true := h3
      have e : N = false := by
        rw [key]
        obtain ⟨q1, q2⟩ := Bool.and_eq_true_iff.1 h3'
        rw [Bool.not_eq_true'] at q1
        by_cases hk : k = 0
        · rw [if_pos hk, q1]; rfl
        · rw [decide_eq_false hk, Bool.false_or, Bool.not_eq_true'] at q2
          rw [if_neg hk]; unfold Lx.alnum; rw [q1, q2]; rfl
      rw [e]
      exact fin1 (fun _ _ => rfl)
    · have h3' : (!Lx.letter (bt s k) && (decide (k = 0) || !Lx.digit (bt s k))) = false := h3
      repeat (refine And.intro ?_ ?_; first | omega | (simp only [Lay.d_n]; omega) | (simp only [decide_eq_true_eq, decide_eq_false_iff_not, Bool.or_eq_false_iff, Bool.and_eq_true, Bool.or_eq_true, Bool.and_eq_false_iff, Bool.not_eq_true', Bool.not_eq_false', Lay.d_n]; omega) | (simp only [decide_eq_true_eq, decide_eq_false_iff_not, Bool.or_eq_false_iff, Bool.and_eq_true, Bool.or_eq_true, Bool.and_eq_false_iff, Bool.not_eq_true', Bool.not_eq_false']; omega))
      refine again (k + 1) [] (.of rfl rfl rfl rfl rfl rfl) ⟨by omega, by omega, fun _ => ?_⟩ (by omega)
      rw [key]
      cases hl : Lx.letter (bt s k) with
      | true => unfold Lx.alnum; rw [hl]; simp
      | false =>
        rw [hl] at h3'
        simp only [Bool.not_false, Bool.true_and, Bool.or_eq_false_iff, decide_eq_false_iff_not, Bool.not_eq_false'] at h3'
        rw [if_neg h3'.1]; unfold Lx.alnum; rw [hl, h3'.2]; rfl
  · have h2 : ¬ k < (s.size : Int) := of_decide_eq_false h
    have e : N = decide (0 < (s.size : Int)) := by
      by_cases h0 : (0 : Int) < s.size
      · rw [g3 (by omega), tl_nil (by omega), decide_eq_true h0]; rfl
      · rw [hN, ← tl_zero, tl_nil (by omega), decide_eq_false h0]; rfl
    rw [e]
    exact fin1 (fun _ _ => rfl)
theorem pieces_cons (q c : Int) (r : Lx.Bs) : Lx.pieces q (c :: r) = if (decide (c = q) || decide (c = 10)) = true then false else if c = 92 then
    (match r with
      | [] => false
      | d :: r' => if d = 10 then false else Lx.pieces q r') else Lx.pieces q r := by
  cases r with
  | nil =>
    simp only [Lx.pieces]
    cases (decide (c = q) || decide (c = 10)) with
    | true => rfl
    | false => by_cases h : c = 92 <;> simp [h]
  | cons d r =>
    simp only [Lx.pieces]
    cases (decide (c = q) || decide (c = 10)) with
    | true => rfl
    | false =>
      by_cases h : c = 92
      · by_cases h2 : d = 10 <;> simp [h, h2]
      · simp [h]
set_option maxRecDepth 100000 in
theorem pieces_any (s : ByteArray) (q : Int) (hz : s.size ≤ 140737488355328) (w : World) : Calls Try.prog 185 #[.string s, .int .u8 q] w (PureP w fun v _ => v = .bool (Lx.pieces q (bl s))) := by
  obtain ⟨N, hN⟩ : ∃ N, N = Lx.pieces q (bl s) := ⟨_, rfl⟩
  rw [← hN]
  refine x_fun tt_ok Try.func185 rfl rfl [] 0 [.v (.string s), .v (.int .u8 q)] rfl rfl rfl rfl (fun b hb => by cases hb) ?_
  refine x_vc tt_ok ?_
  refine x_loop (σ := Int) (fun k => ⟨[(5, .v (.int .i64 k)), (1, .v (.int .u8 q)), (0, .v (.string s))], [], [], 0⟩)
    (fun k _ => 0 ≤ k ∧ k ≤ s.size ∧ N = Lx.pieces q (tl s k)) (fun k => (s.size - k).toNat) (fun _ => Nat.le_refl _) 0 [] (.of rfl rfl rfl rfl rfl rfl)
    ⟨by omega, by omega, hN⟩ ?_
  rintro k u hu ⟨g1, g2, g3⟩
  refine x_vc tt_ok ?_
  refine x_if (fun h => ?_) (fun h => ?_)
  · have h2 : k < s.size := of_decide_eq_true h
    rw [tl_cons g1 h2, pieces_cons] at g3
    repeat (refine And.intro ?_ ?_; first | omega | (simp only [Lay.d_n]; omega) | (simp only [decide_eq_true_eq, decide_eq_false_iff_not, Bool.or_eq_false_iff, Bool.and_eq_true, Bool.or_eq_true, Bool.and_eq_false_iff, Bool.not_eq_true', Bool.not_eq_false', Lay.d_n]; omega) | (simp only [decide_eq_true_eq, decide_eq_false_iff_not, Bool.or_eq_false_iff, Bool.and_eq_true, Bool.or_eq_true, Bool.and_eq_false_iff, Bool.not_eq_true', Bool.not_eq_false']; omega))
    refine x_if (fun h3 => ?_) (fun h3 => ?_)
    · rw [if_pos h3] at g3
      rw [g3]
      exact fin1 (fun _ _ => rfl)
    · rw [if_neg (fun h => Bool.noConfusion (h.symm.trans h3))] at g3
      repeat (refine And.intro ?_ ?_; first | omega | (simp only [Lay.d_n]; omega) | (simp only [decide_eq_true_eq, decide_eq_false_iff_not, Bool.or_eq_false_iff, Bool.and_eq_true, Bool.or_eq_true, Bool.and_eq_false_iff, Bool.not_eq_true', Bool.not_eq_false', Lay.d_n]; omega) | (simp only [decide_eq_true_eq, decide_eq_false_iff_not, Bool.or_eq_false_iff, Bool.and_eq_true, Bool.or_eq_true, Bool.and_eq_false_iff, Bool.not_eq_true', Bool.not_eq_false']; omega))
      refine x_if (fun h4 => ?_) (fun h4 => ?_)
      · rw [if_pos (of_decide_eq_true h4)] at g3
        repeat (refine And.intro ?_ ?_; first | omega | (simp only [Lay.d_n]; omega) | (simp only [decide_eq_true_eq, decide_eq_false_iff_not, Bool.or_eq_false_iff, Bool.and_eq_true, Bool.or_eq_true, Bool.and_eq_false_iff, Bool.not_eq_true', Bool.not_eq_false', Lay.d_n]; omega) | (simp only [decide_eq_true_eq, decide_eq_false_iff_not, Bool.or_eq_false_iff, Bool.and_eq_true, Bool.or_eq_true, Bool.and_eq_false_iff, Bool.not_eq_true', Bool.not_eq_false']; omega))
        refine x_if (fun h5 => ?_) (fun h5 => ?_)
        · have h5' : (decide (k + 1 = (s.size : Int)) || decide (bt s (k + 1) = 10)) = true := h5
          have e : N = false := by
            rw [g3]
            by_cases h6 : k + 1 < s.size
            · rw [decide_eq_false (by omega), Bool.false_or] at h5'
              rw [tl_cons (by omega) h6]
              exact if_pos (of_decide_eq_true h5')
            · rw [tl_nil (by omega)]
          rw [e]
          exact fin1 (fun _ _ => rfl)
        · have h5' : (decide (k + 1 = (s.size : Int)) || decide (bt s (k + 1) = 10)) = false := h5
          obtain ⟨q1, q2⟩ := Bool.or_eq_false_iff.1 h5'
          have q1 := of_decide_eq_false q1
          rw [tl_cons (by omega) (by omega)] at g3
          simp only at g3
          rw [if_neg (of_decide_eq_false q2)] at g3
          repeat (refine And.intro ?_ ?_; first | omega | (simp only [Lay.d_n]; omega) | (simp only [decide_eq_true_eq, decide_eq_false_iff_not, Bool.or_eq_false_iff, Bool.and_eq_true, Bool.or_eq_true, Bool.and_eq_false_iff, Bool.not_eq_true', Bool.not_eq_false', Lay.d_n]; omega) | (simp only [decide_eq_true_eq, decide_eq_false_iff_not, Bool.or_eq_false_iff, Bool.and_eq_true, Bool.or_eq_true, Bool.and_eq_false_iff, Bool.not_eq_true', Bool.not_eq_false']; omega))
          exact again (k + 1 + 1) [] (.of rfl rfl rfl rfl rfl rfl) ⟨by omega, by omega, g3⟩ (by omega)
      · rw [if_neg (of_decide_eq_false h4)] at g3
        repeat (refine And.intro ?_ ?_; first | omega | (simp only [Lay.d_n]; omega) | (simp only [decide_eq_true_eq, decide_eq_false_iff_not, Bool.or_eq_false_iff, Bool.and_eq_true, Bool.or_eq_true, Bool.and_eq_false_iff, Bool.not_eq_true', Bool.not_eq_false', Lay.d_n]; omega) | (simp only [decide_eq_true_eq, decide_eq_false_iff_not, Bool.or_eq_false_iff, Bool.and_eq_true, Bool.or_eq_true, Bool.and_eq_false_iff, Bool.not_eq_true', Bool.not_eq_false']; omega))
        exact again (k + 1) [] (.of rfl rfl rfl rfl rfl rfl) ⟨by omega, by omega, g3⟩ (by omega)
  · have h2 : ¬ k < (s.size : Int) := of_decide_eq_false h
    rw [tl_nil (by omega)] at g3
    rw [g3]
    exact fin1 (fun _ _ => rfl)
theorem allP_snoc : ∀ (l : Lx.Bs) (a c : Int), Lx.allP a (l ++ [c]) = (Lx.allP a l && Lx.okp ((a :: l).getLast (by simp)) c)
  | [], a, c => by simp [Lx.allP]
  | b :: r, a, c => by
    simp only [List.cons_append, Lx.allP, allP_snoc r b c, Bool.and_assoc]
    rfl
theorem isNum_snoc {l : Lx.Bs} (h : l ≠ []) (h2 : l ≠ [46]) (c : Int) : Lx.isNum (l ++ [c]) = (Lx.isNum l && Lx.okp (l.getLast h) c) := by
  match l, h, h2 with
  | [a], _, h2 =>
    have ha : ¬ a = 46 := fun h => h2 (by rw [h])
    simp only [List.cons_append, List.nil_append, Lx.isNum, Lx.allP, List.getLast_singleton, Bool.and_true, decide_eq_false ha]
    cases Lx.digit a <;> rfl
  | a :: d :: r, _, _ =>
    simp only [List.cons_append, Lx.isNum]
    cases Lx.digit a with
    | true =>
      have := allP_snoc (d :: r) a c
      rw [List.cons_append] at this
      exact this
    | false =>
      cases decide (a = 46) with
      | true =>
        simp only [allP_snoc r d c]
        rw [Bool.and_assoc]; rfl
      | false => rfl
theorem sign_okc {c : Int} (h : Lx.sign c = true) : Lx.okc c = false := by
  unfold Lx.sign at h
  simp only [Bool.or_eq_true, decide_eq_true_eq] at h
  rcases h with rfl | rfl <;> rfl
theorem expo_digit {c : Int} (h : Lx.expo c = true) : Lx.digit c = false := by
  unfold Lx.expo at h
  simp only [Bool.or_eq_true, decide_eq_true_eq] at h
  rcases h with ((rfl | rfl) | rfl) | rfl <;> rfl
theorem snocS (s : ByteArray) {k : Int} (h0 : 0 ≤ k) (h : k < s.size) : bl (sub s 0 (k + 1)) = bl (sub s 0 k) ++ [bt s k] := by
  have hl : k.toNat < (bl s).length := by rw [bl_len]; omega
  rw [bl_sub s (Int.le_refl _) (by omega) (by omega), bl_sub s (Int.le_refl _) (by omega) (by omega), tl_zero, Int.sub_zero, Int.sub_zero, show (k + 1).toNat = k.toNat + 1 by omega]
  have h2 := bl_get s (n := k.toNat) (by omega)
  rw [show ((k.toNat : Nat) : Int) = k by omega] at h2
  rw [List.getElem?_eq_getElem hl] at h2
  rw [← Option.some.inj h2]
  exact (List.take_append_getElem hl).symm
theorem wholeS (s : ByteArray) : bl (sub s 0 s.size) = bl s := bl_rest s (Int.le_refl _) (by omega)
theorem isNum_step (s : ByteArray) (h2 : 2 ≤ s.size) (hx : ¬ (s.size = 2 ∧ bt s 0 = 46)) : Lx.isNum (bl s) =
    if Lx.sign (bt s ((s.size : Int) - 1)) = true then (decide (2 < (s.size : Int)) && Lx.expo (bt s ((s.size : Int) - 2)) && Lx.isNum (bl (sub s 0 ((s.size : Int) - 2))))
    else (Lx.okc (bt s ((s.size : Int) - 1)) && Lx.isNum (bl (sub s 0 ((s.size : Int) - 1)))) := by
  have e1 := snocS s (k := (s.size : Int) - 1) (by omega) (by omega)
  have e2 := snocS s (k := (s.size : Int) - 2) (by omega) (by omega)
  rw [show (s.size : Int) - 1 + 1 = s.size by omega, wholeS] at e1
  rw [show (s.size : Int) - 2 + 1 = (s.size : Int) - 1 by omega] at e2
  have hp : (bl (sub s 0 ((s.size : Int) - 2))).length = s.size - 2 := by
    rw [bl_sub s (Int.le_refl _) (by omega) (by omega), List.length_take, tl_len]; omega
  have hp0 : s.size = 2 → bt s ((s.size : Int) - 2) = bt s 0 := fun h => by rw [h]; rfl
  have hp46 : bl (sub s 0 ((s.size : Int) - 2)) = [46] → Lx.isNum (bl (sub s 0 ((s.size : Int) - 2))) = false := fun h => by rw [h]; rfl
  generalize bl (sub s 0 ((s.size : Int) - 2)) = p at e2 hp hp46 ⊢
  generalize bt s ((s.size : Int) - 2) = a at e2 hp0 ⊢
  generalize bt s ((s.size : Int) - 1) = c at e1 ⊢
  have hm46 : bl (sub s 0 ((s.size : Int) - 1)) ≠ [46] := by
    rw [e2]
    intro h
    cases p with
    | nil =>
      simp only [List.length_nil] at hp
      have h3 : s.size = 2 := by omega
      simp only [List.nil_append, List.cons.injEq, and_true] at h
      exact hx ⟨h3, (hp0 h3).symm.trans h⟩
    | cons x r => simp at h
  rw [e1, isNum_snoc (by rw [e2]; simp) hm46]
  have hlast : ∀ h, (bl (sub s 0 ((s.size : Int) - 1))).getLast h = a := fun h => by simp only [e2, List.getLast_append, List.getLast_singleton]; simp
  rw [hlast]
  by_cases hs : Lx.sign c = true
  · rw [if_pos hs]
    unfold Lx.okp
    rw [sign_okc hs, hs, Bool.false_or, Bool.true_and]
    cases ha : Lx.expo a with
    | false => simp
    | true =>
      rw [Bool.and_true, Bool.and_true, e2]
      cases p with
      | nil =>
        simp only [List.length_nil] at hp
        rw [decide_eq_false (by omega), Bool.false_and]
        show Lx.isNum [a] = false
        simp only [Lx.isNum, expo_digit ha]
        split
        · simp_all
        · rfl
      | cons x r =>
        simp only [List.length_cons] at hp
        rw [decide_eq_true (by omega), Bool.true_and]
        by_cases h46 : x :: r = [46]
        · rw [hp46 h46, h46]
          simp [Lx.isNum, Lx.digit, Lx.allP]
          have := expo_digit ha
          unfold Lx.digit at this
          simpa using this
        · rw [isNum_snoc (by simp) h46, expo_okc ha, Bool.and_true]
  · rw [if_neg hs]
    have hs : Lx.sign c = false := by simpa using hs
    unfold Lx.okp
    rw [hs, Bool.false_and, Bool.or_false, Bool.and_comm]
set_option maxRecDepth 100000 in
theorem isNumN_any (n : Nat) : ∀ (s : ByteArray), s.size = n → s.size ≤ 140737488355328 → ∀ w : World, Calls Try.prog 171 #[.string s] w (PureP w fun v _ => v = .bool (Lx.isNum (bl s))) := by
  induction n using Nat.strongRecOn with
  | _ n ih =>
    intro s hn hz w
    obtain ⟨N, hN⟩ : ∃ N, N = Lx.isNum (bl s) := ⟨_, rfl⟩
    rw [← hN]
    refine x_fun tt_ok Try.func171 rfl rfl [] 0 [.v (.string s)] rfl rfl rfl rfl (fun b hb => by cases hb) ?_
    refine x_vc tt_ok ?_
    refine x_if (fun h => ?_) (fun h => ?_)
    · have h0 : (s.size : Int) = 0 := of_decide_eq_true h
      have e : N = false := by rw [hN, ← tl_zero, tl_nil (by omega)]; rfl
      rw [e]
      exact fin1 (fun _ _ => rfl)
    · have h0 : ¬ (s.size : Int) = 0 := of_decide_eq_false h
      refine x_if (fun h1 => ?_) (fun h1 => ?_)
      · have h1 : (s.size : Int) = 1 := of_decide_eq_true h1
        repeat (refine And.intro ?_ ?_; first | omega | (simp only [Lay.d_n]; omega) | (simp only [decide_eq_true_eq, decide_eq_false_iff_not, Bool.or_eq_false_iff, Bool.and_eq_true, Bool.or_eq_true, Bool.and_eq_false_iff, Bool.not_eq_true', Bool.not_eq_false', Lay.d_n]; omega) | (simp only [decide_eq_true_eq, decide_eq_false_iff_not, Bool.or_eq_false_iff, Bool.and_eq_true, Bool.or_eq_true, Bool.and_eq_false_iff, Bool.not_eq_true', Bool.not_eq_false']; omega))
        refine xl_call0 (.bool (Lx.digit (bt s 0))) rfl rfl rfl rfl fn182 rfl rfl (fun E w F _ => digitR_any _ w) ?_
        refine xl_go tt_ok ?_
        have e : N = Lx.digit (bt s 0) := by
          rw [hN, ← tl_zero, tl_cons (by omega) (by omega), tl_nil (by omega)]
          simp only [Lx.isNum, Lx.allP]
          cases Lx.digit (bt s 0) with
          | true => rfl
          | false => cases decide (bt s 0 = 46) <;> rfl
        rw [e]
        exact fin1 (fun _ _ => rfl)
      · have h1 : ¬ (s.size : Int) = 1 := of_decide_eq_false h1
        repeat (refine And.intro ?_ ?_; first | omega | (simp only [Lay.d_n]; omega) | (simp only [decide_eq_true_eq, decide_eq_false_iff_not, Bool.or_eq_false_iff, Bool.and_eq_true, Bool.or_eq_true, Bool.and_eq_false_iff, Bool.not_eq_true', Bool.not_eq_false', Lay.d_n]; omega) | (simp only [decide_eq_true_eq, decide_eq_false_iff_not, Bool.or_eq_false_iff, Bool.and_eq_true, Bool.or_eq_true, Bool.and_eq_false_iff, Bool.not_eq_true', Bool.not_eq_false']; omega))
        refine x_if (fun h2 => ?_) (fun h2 => ?_)
        · obtain ⟨q1, q2⟩ := Bool.and_eq_true_iff.1 h2
          have q1 : (s.size : Int) = 2 := of_decide_eq_true q1
          have q2 : bt s 0 = 46 := of_decide_eq_true q2
          repeat (refine And.intro ?_ ?_; first | omega | (simp only [Lay.d_n]; omega) | (simp only [decide_eq_true_eq, decide_eq_false_iff_not, Bool.or_eq_false_iff, Bool.and_eq_true, Bool.or_eq_true, Bool.and_eq_false_iff, Bool.not_eq_true', Bool.not_eq_false', Lay.d_n]; omega) | (simp only [decide_eq_true_eq, decide_eq_false_iff_not, Bool.or_eq_false_iff, Bool.and_eq_true, Bool.or_eq_true, Bool.and_eq_false_iff, Bool.not_eq_true', Bool.not_eq_false']; omega))
          refine xl_call0 (.bool (Lx.digit (bt s 1))) rfl rfl rfl rfl fn182 rfl rfl (fun E w F _ => digitR_any _ w) ?_
          refine xl_go tt_ok ?_
          have e : N = Lx.digit (bt s 1) := by
            rw [hN, ← tl_zero, tl_cons (by omega) (by omega), tl_cons (by omega) (by omega), tl_nil (by omega), q2]
            simp [Lx.isNum, Lx.allP, show Lx.digit 46 = false from rfl]
          rw [e]
          exact fin1 (fun _ _ => rfl)
        · have hx : ¬ (s.size = 2 ∧ bt s 0 = 46) := by
            rintro ⟨q1, q2⟩
            have h2' : (decide ((s.size : Int) = 2) && decide (bt s 0 = 46)) = false := h2
            rw [decide_eq_true (by omega), decide_eq_true q2] at h2'; cases h2'
          have key := isNum_step s (by omega) hx
          rw [← hN] at key
          repeat (refine And.intro ?_ ?_; first | omega | (simp only [Lay.d_n]; omega) | (simp only [decide_eq_true_eq, decide_eq_false_iff_not, Bool.or_eq_false_iff, Bool.and_eq_true, Bool.or_eq_true, Bool.and_eq_false_iff, Bool.not_eq_true', Bool.not_eq_false', Lay.d_n]; omega) | (simp only [decide_eq_true_eq, decide_eq_false_iff_not, Bool.or_eq_false_iff, Bool.and_eq_true, Bool.or_eq_true, Bool.and_eq_false_iff, Bool.not_eq_true', Bool.not_eq_false']; omega))
          refine xl_call0 (.bool (Lx.sign (bt s ((s.size : Int) - 1)))) rfl rfl rfl rfl fn183 rfl rfl (fun E w F _ => sign_any _ w) ?_
          refine xl_go tt_ok ?_
          refine x_if (fun h3 => ?_) (fun h3 => ?_)
          · rw [if_pos h3] at key
            repeat (refine And.intro ?_ ?_; first | omega | (simp only [Lay.d_n]; omega) | (simp only [decide_eq_true_eq, decide_eq_false_iff_not, Bool.or_eq_false_iff, Bool.and_eq_true, Bool.or_eq_true, Bool.and_eq_false_iff, Bool.not_eq_true', Bool.not_eq_false', Lay.d_n]; omega) | (simp only [decide_eq_true_eq, decide_eq_false_iff_not, Bool.or_eq_false_iff, Bool.and_eq_true, Bool.or_eq_true, Bool.and_eq_false_iff, Bool.not_eq_true', Bool.not_eq_false']; omega))
            refine xl_gcall0 (.bool (Lx.expo (bt s ((s.size : Int) - 2)))) rfl rfl rfl rfl fn184 rfl rfl (fun _ E w F _ => expo_any _ w) ?_
            refine xl_go tt_ok ?_
            repeat (refine And.intro ?_ ?_; first | omega | (simp only [Lay.d_n]; omega) | (simp only [decide_eq_true_eq, decide_eq_false_iff_not, Bool.or_eq_false_iff, Bool.and_eq_true, Bool.or_eq_true, Bool.and_eq_false_iff, Bool.not_eq_true', Bool.not_eq_false', Lay.d_n]; omega) | (simp only [decide_eq_true_eq, decide_eq_false_iff_not, Bool.or_eq_false_iff, Bool.and_eq_true, Bool.or_eq_true, Bool.and_eq_false_iff, Bool.not_eq_true', Bool.not_eq_false']; omega))
            have hz2 : ((sub s 0 ((s.size : Int) - 2)).size : Int) = s.size - 2 - 0 := sub_size (Int.le_refl _) (by omega) (by omega)
            refine xl_gcall0 (.bool (Lx.isNum (bl (sub s 0 ((s.size : Int) - 2))))) rfl rfl rfl rfl fn171 rfl rfl (fun _ E w F _ => ih (sub s 0 ((s.size : Int) - 2)).size (by omega) _ rfl (by omega) w) ?_
            refine xl_go tt_ok ?_
            rw [key]
            exact fin1 (fun _ _ => rfl)
          · rw [if_neg (by rw [h3]; simp)] at key
            repeat (refine And.intro ?_ ?_; first | omega | (simp only [Lay.d_n]; omega) | (simp only [decide_eq_true_eq, decide_eq_false_iff_not, Bool.or_eq_false_iff, Bool.and_eq_true, Bool.or_eq_true, Bool.and_eq_false_iff, Bool.not_eq_true', Bool.not_eq_false', Lay.d_n]; omega) | (simp only [decide_eq_true_eq, decide_eq_false_iff_not, Bool.or_eq_false_iff, Bool.and_eq_true, Bool.or_eq_true, Bool.and_eq_false_iff, Bool.not_eq_true', Bool.not_eq_false']; omega))
            refine xl_call0 (.bool (Lx.digit (bt s ((s.size : Int) - 1)))) rfl rfl rfl rfl fn182 rfl rfl (fun E w F _ => digitR_any _ w) ?_
            refine xl_go tt_ok ?_
            refine xl_gcall0 (.bool (Lx.letter (bt s ((s.size : Int) - 1)))) rfl rfl rfl rfl fn181 rfl rfl (fun _ E w F _ => letterR_any _ w) ?_
            refine xl_go tt_ok ?_
            repeat (refine And.intro ?_ ?_; first | omega | (simp only [Lay.d_n]; omega) | (simp only [decide_eq_true_eq, decide_eq_false_iff_not, Bool.or_eq_false_iff, Bool.and_eq_true, Bool.or_eq_true, Bool.and_eq_false_iff, Bool.not_eq_true', Bool.not_eq_false', Lay.d_n]; omega) | (simp only [decide_eq_true_eq, decide_eq_false_iff_not, Bool.or_eq_false_iff, Bool.and_eq_true, Bool.or_eq_true, Bool.and_eq_false_iff, Bool.not_eq_true', Bool.not_eq_false']; omega))
            have hz2 : ((sub s 0 ((s.size : Int) - 1)).size : Int) = s.size - 1 - 0 := sub_size (Int.le_refl _) (by omega) (by omega)
            refine xl_gcall0 (.bool (Lx.isNum (bl (sub s 0 ((s.size : Int) - 1))))) rfl rfl rfl rfl fn171 rfl rfl (fun _ E w F _ => ih (sub s 0 ((s.size : Int) - 1)).size (by omega) _ rfl (by omega) w) ?_
            refine xl_go tt_ok ?_
            have e : Lx.okc (bt s ((s.size : Int) - 1)) = ((Lx.digit (bt s ((s.size : Int) - 1)) || Lx.letter (bt s ((s.size : Int) - 1))) || decide (bt s ((s.size : Int) - 1) = 46)) := by
              unfold Lx.okc Lx.alnum
              rw [Bool.or_comm (Lx.letter _)]
            rw [key, e]
            exact fin1 (fun _ _ => rfl)
theorem isNum_any (s : ByteArray) (hz : s.size ≤ 140737488355328) (w : World) : Calls Try.prog 171 #[.string s] w (PureP w fun v _ => v = .bool (Lx.isNum (bl s))) := isNumN_any _ s rfl hz w
end Go.Proofs.Ytdonomneofdhfaa
namespace Go.Proofs.Ytdonomneofdhfaa
open Go.GV Go.RowKit
def orL : List ByteArray → ByteArray → Bool
  | [], _ => false
  | t :: r, s => decide (s = t) || orL r s
theorem orL_t {b : Bool} {s t : ByteArray} {r : List ByteArray} (e : b = orL (t :: r) s) (h : decide (s = t) = true) : b = true := by rw [e, orL, h]; rfl
theorem orL_f {b : Bool} {s t : ByteArray} {r : List ByteArray} (e : b = orL (t :: r) s) (h : decide (s = t) = false) : b = orL r s := by rw [e, orL, h]; rfl
theorem orL_map (s : ByteArray) : ∀ ls : List ByteArray, (ls.map bl).contains (bl s) = orL ls s
  | [] => rfl
  | t :: r => by
    rw [List.map_cons, List.contains_cons, orL_map s r, orL, bl_eq]
    congr 1
    rw [Bool.eq_iff_iff]; simp
def punA : List ByteArray := [⟨#[91]⟩, ⟨#[93]⟩, ⟨#[40]⟩, ⟨#[41]⟩, ⟨#[123]⟩, ⟨#[125]⟩, ⟨#[46]⟩, ⟨#[45, 62]⟩, ⟨#[43, 43]⟩, ⟨#[45, 45]⟩, ⟨#[38]⟩, ⟨#[42]⟩, ⟨#[43]⟩, ⟨#[45]⟩, ⟨#[126]⟩, ⟨#[33]⟩, ⟨#[47]⟩, ⟨#[37]⟩, ⟨#[60, 60]⟩, ⟨#[62, 62]⟩, ⟨#[60]⟩, ⟨#[62]⟩, ⟨#[60, 61]⟩, ⟨#[62, 61]⟩, ⟨#[61, 61]⟩, ⟨#[33, 61]⟩, ⟨#[94]⟩, ⟨#[124]⟩, ⟨#[38, 38]⟩, ⟨#[124, 124]⟩, ⟨#[63]⟩, ⟨#[58]⟩, ⟨#[59]⟩, ⟨#[46, 46, 46]⟩, ⟨#[61]⟩, ⟨#[42, 61]⟩, ⟨#[47, 61]⟩, ⟨#[37, 61]⟩, ⟨#[43, 61]⟩, ⟨#[45, 61]⟩, ⟨#[60, 60, 61]⟩, ⟨#[62, 62, 61]⟩, ⟨#[38, 61]⟩, ⟨#[94, 61]⟩, ⟨#[124, 61]⟩, ⟨#[44]⟩, ⟨#[35]⟩, ⟨#[35, 35]⟩, ⟨#[60, 58]⟩, ⟨#[58, 62]⟩, ⟨#[60, 37]⟩, ⟨#[37, 62]⟩, ⟨#[37, 58]⟩, ⟨#[37, 58, 37, 58]⟩]
theorem punA_eq : Lx.punS = punA.map bl := by decide
theorem isPun_or (s : ByteArray) : Lx.isPun (bl s) = orL punA s := by
  unfold Lx.isPun
  rw [punA_eq]; exact orL_map s _
set_option maxRecDepth 100000 in
theorem punct_any (s : ByteArray) (w : World) : Calls Try.prog 180 #[.string s] w (PureP w fun v _ => v = .bool (Lx.isPun (bl s))) := by
  have e := isPun_or s
  generalize Lx.isPun (bl s) = b at e ⊢
  unfold punA at e
  refine x_fun tt_ok Try.func180 rfl rfl [] 0 [.v (.string s)] rfl rfl rfl rfl (fun b hb => by cases hb) ?_
  refine x_vc tt_ok ?_
  refine x_if (fun h => ?_) (fun h => ?_)
  · refine x_ift h ?_
    rw [orL_t e h]
    exact fin1 (fun _ _ => rfl)
  replace e := orL_f e h
  clear h
  refine x_if (fun h => ?_) (fun h => ?_)
  · refine x_ift h ?_
    rw [orL_t e h]
    exact fin1 (fun _ _ => rfl)
  replace e := orL_f e h
  clear h
  refine x_if (fun h => ?_) (fun h => ?_)
  · refine x_ift h ?_
    rw [orL_t e h]
    exact fin1 (fun _ _ => rfl)
  replace e := orL_f e h
  clear h
  refine x_if (fun h => ?_) (fun h => ?_)
  · refine x_ift h ?_
    rw [orL_t e h]
    exact fin1 (fun _ _ => rfl)
  replace e := orL_f e h
  clear h
  refine x_if (fun h => ?_) (fun h => ?_)
  · refine x_ift h ?_
    rw [orL_t e h]
    exact fin1 (fun _ _ => rfl)
  replace e := orL_f e h
  clear h
  refine x_if (fun h => ?_) (fun h => ?_)
  · refine x_ift h ?_
    rw [orL_t e h]
    exact fin1 (fun _ _ => rfl)
  replace e := orL_f e h
  clear h
  refine x_if (fun h => ?_) (fun h => ?_)
  · refine x_ift h ?_
    rw [orL_t e h]
    exact fin1 (fun _ _ => rfl)
  replace e := orL_f e h
  clear h
  refine x_if (fun h => ?_) (fun h => ?_)
  · refine x_ift h ?_
    rw [orL_t e h]
    exact fin1 (fun _ _ => rfl)
  replace e := orL_f e h
  clear h
  refine x_if (fun h => ?_) (fun h => ?_)
  · refine x_ift h ?_
    rw [orL_t e h]
    exact fin1 (fun _ _ => rfl)
  replace e := orL_f e h
  clear h
  refine x_if (fun h => ?_) (fun h => ?_)
  · refine x_ift h ?_
    rw [orL_t e h]
    exact fin1 (fun _ _ => rfl)
  replace e := orL_f e h
  clear h
  refine x_if (fun h => ?_) (fun h => ?_)
  · refine x_ift h ?_
    rw [orL_t e h]
    exact fin1 (fun _ _ => rfl)
  replace e := orL_f e h
  clear h
  refine x_if (fun h => ?_) (fun h => ?_)
  · refine x_ift h ?_
    rw [orL_t e h]
    exact fin1 (fun _ _ => rfl)
  replace e := orL_f e h
  clear h
  refine x_if (fun h => ?_) (fun h => ?_)
  · refine x_ift h ?_
    rw [orL_t e h]
    exact fin1 (fun _ _ => rfl)
  replace e := orL_f e h
  clear h
  refine x_if (fun h => ?_) (fun h => ?_)
  · refine x_ift h ?_
    rw [orL_t e h]
    exact fin1 (fun _ _ => rfl)
  replace e := orL_f e h
  clear h
  refine x_if (fun h => ?_) (fun h => ?_)
  · refine x_ift h ?_
    rw [orL_t e h]
    exact fin1 (fun _ _ => rfl)
  replace e := orL_f e h
  clear h
  refine x_if (fun h => ?_) (fun h => ?_)
  · refine x_ift h ?_
    rw [orL_t e h]
    exact fin1 (fun _ _ => rfl)
  replace e := orL_f e h
  clear h
  refine x_if (fun h => ?_) (fun h => ?_)
  · refine x_ift h ?_
    rw [orL_t e h]
    exact fin1 (fun _ _ => rfl)
  replace e := orL_f e h
  clear h
  refine x_if (fun h => ?_) (fun h => ?_)
  · refine x_ift h ?_
    rw [orL_t e h]
    exact fin1 (fun _ _ => rfl)
  replace e := orL_f e h
  clear h
  refine x_if (fun h => ?_) (fun h => ?_)
  · refine x_ift h ?_
    rw [orL_t e h]
    exact fin1 (fun _ _ => rfl)
  replace e := orL_f e h
  clear h
  refine x_if (fun h => ?_) (fun h => ?_)
  · refine x_ift h ?_
    rw [orL_t e h]
    exact fin1 (fun _ _ => rfl)
  replace e := orL_f e h
  clear h
  refine x_if (fun h => ?_) (fun h => ?_)
  · refine x_ift h ?_
    rw [orL_t e h]
    exact fin1 (fun _ _ => rfl)
  replace e := orL_f e h
  clear h
  refine x_if (fun h => ?_) (fun h => ?_)
  · refine x_ift h ?_
    rw [orL_t e h]
    exact fin1 (fun _ _ => rfl)
  replace e := orL_f e h
  clear h
  refine x_if (fun h => ?_) (fun h => ?_)
  · refine x_ift h ?_
    rw [orL_t e h]
    exact fin1 (fun _ _ => rfl)
  replace e := orL_f e h
  clear h
  refine x_if (fun h => ?_) (fun h => ?_)
  · refine x_ift h ?_
    rw [orL_t e h]
    exact fin1 (fun _ _ => rfl)
  replace e := orL_f e h
  clear h
  refine x_if (fun h => ?_) (fun h => ?_)
  · refine x_ift h ?_
    rw [orL_t e h]
    exact fin1 (fun _ _ => rfl)
  replace e := orL_f e h
  clear h
  refine x_if (fun h => ?_) (fun h => ?_)
  · refine x_ift h ?_
    rw [orL_t e h]
    exact fin1 (fun _ _ => rfl)
  replace e := orL_f e h
  clear h
  refine x_if (fun h => ?_) (fun h => ?_)
  · refine x_ift h ?_
    rw [orL_t e h]
    exact fin1 (fun _ _ => rfl)
  replace e := orL_f e h
  clear h
  refine x_if (fun h => ?_) (fun h => ?_)
  · refine x_ift h ?_
    rw [orL_t e h]
    exact fin1 (fun _ _ => rfl)
  replace e := orL_f e h
  clear h
  refine x_if (fun h => ?_) (fun h => ?_)
  · refine x_ift h ?_
    rw [orL_t e h]
    exact fin1 (fun _ _ => rfl)
  replace e := orL_f e h
  clear h
  refine x_if (fun h => ?_) (fun h => ?_)
  · refine x_ift h ?_
    rw [orL_t e h]
    exact fin1 (fun _ _ => rfl)
  replace e := orL_f e h
  clear h
  refine x_if (fun h => ?_) (fun h => ?_)
  · refine x_ift h ?_
    rw [orL_t e h]
    exact fin1 (fun _ _ => rfl)
  replace e := orL_f e h
  clear h
  refine x_if (fun h => ?_) (fun h => ?_)
  · refine x_ift h ?_
    rw [orL_t e h]
    exact fin1 (fun _ _ => rfl)
  replace e := orL_f e h
  clear h
  refine x_if (fun h => ?_) (fun h => ?_)
  · refine x_ift h ?_
    rw [orL_t e h]
    exact fin1 (fun _ _ => rfl)
  replace e := orL_f e h
  clear h
  refine x_if (fun h => ?_) (fun h => ?_)
  · refine x_ift h ?_
    rw [orL_t e h]
    exact fin1 (fun _ _ => rfl)
  replace e := orL_f e h
  clear h
  refine x_if (fun h => ?_) (fun h => ?_)
  · refine x_ift h ?_
    rw [orL_t e h]
    exact fin1 (fun _ _ => rfl)
  replace e := orL_f e h
  clear h
  refine x_if (fun h => ?_) (fun h => ?_)
  · refine x_ift h ?_
    rw [orL_t e h]
    exact fin1 (fun _ _ => rfl)
  replace e := orL_f e h
  clear h
  refine x_if (fun h => ?_) (fun h => ?_)
  · refine x_ift h ?_
    rw [orL_t e h]
    exact fin1 (fun _ _ => rfl)
  replace e := orL_f e h
  clear h
  refine x_if (fun h => ?_) (fun h => ?_)
  · refine x_ift h ?_
    rw [orL_t e h]
    exact fin1 (fun _ _ => rfl)
  replace e := orL_f e h
  clear h
  refine x_if (fun h => ?_) (fun h => ?_)
  · refine x_ift h ?_
    rw [orL_t e h]
    exact fin1 (fun _ _ => rfl)
  replace e := orL_f e h
  clear h
  refine x_if (fun h => ?_) (fun h => ?_)
  · refine x_ift h ?_
    rw [orL_t e h]
    exact fin1 (fun _ _ => rfl)
  replace e := orL_f e h
  clear h
  refine x_if (fun h => ?_) (fun h => ?_)
  · refine x_ift h ?_
    rw [orL_t e h]
    exact fin1 (fun _ _ => rfl)
  replace e := orL_f e h
  clear h
  refine x_if (fun h => ?_) (fun h => ?_)
  · refine x_ift h ?_
    rw [orL_t e h]
    exact fin1 (fun _ _ => rfl)
  replace e := orL_f e h
  clear h
  refine x_if (fun h => ?_) (fun h => ?_)
  · refine x_ift h ?_
    rw [orL_t e h]
    exact fin1 (fun _ _ => rfl)
  replace e := orL_f e h
  clear h
  refine x_if (fun h => ?_) (fun h => ?_)
  · refine x_ift h ?_
    rw [orL_t e h]
    exact fin1 (fun _ _ => rfl)
  replace e := orL_f e h
  clear h
  refine x_if (fun h => ?_) (fun h => ?_)
  · refine x_ift h ?_
    rw [orL_t e h]
    exact fin1 (fun _ _ => rfl)
  replace e := orL_f e h
  clear h
  refine x_if (fun h => ?_) (fun h => ?_)
  · refine x_ift h ?_
    rw [orL_t e h]
    exact fin1 (fun _ _ => rfl)
  replace e := orL_f e h
  clear h
  refine x_if (fun h => ?_) (fun h => ?_)
  · refine x_ift h ?_
    rw [orL_t e h]
    exact fin1 (fun _ _ => rfl)
  replace e := orL_f e h
  clear h
  refine x_if (fun h => ?_) (fun h => ?_)
  · refine x_ift h ?_
    rw [orL_t e h]
    exact fin1 (fun _ _ => rfl)
  replace e := orL_f e h
  clear h
  refine x_if (fun h => ?_) (fun h => ?_)
  · refine x_ift h ?_
    rw [orL_t e h]
    exact fin1 (fun _ _ => rfl)
  replace e := orL_f e h
  clear h
  refine x_if (fun h => ?_) (fun h => ?_)
  · refine x_ift h ?_
    rw [orL_t e h]
    exact fin1 (fun _ _ => rfl)
  replace e := orL_f e h
  clear h
  refine x_if (fun h => ?_) (fun h => ?_)
  · refine x_ift h ?_
    rw [orL_t e h]
    exact fin1 (fun _ _ => rfl)
  replace e := orL_f e h
  clear h
  refine x_if (fun h => ?_) (fun h => ?_)
  · refine x_ift h ?_
    rw [orL_t e h]
    exact fin1 (fun _ _ => rfl)
  replace e := orL_f e h
  clear h
  refine x_if (fun h => ?_) (fun h => ?_)
  · refine x_ift h ?_
    rw [orL_t e h]
    exact fin1 (fun _ _ => rfl)
  replace e := orL_f e h
  clear h
  refine x_if (fun h => ?_) (fun h => ?_)
  · rw [orL_t e h]
    exact fin1 (fun _ _ => rfl)
  · rw [orL_f e h]
    exact fin1 (fun _ _ => rfl)
end Go.Proofs.Ytdonomneofdhfaa
namespace Go.Proofs.Ytdonomneofdhfaa
open Go.GV Go.RowKit
def punE (s : ByteArray) (i : Int) : Int := atE i (Lx.punN (tl s i))
theorem bl_part (s : ByteArray) {i n : Int} (h0 : 0 ≤ i) (hn : 0 ≤ n) (h : i + n ≤ s.size) : bl (sub s i (i + n)) = (tl s i).take n.toNat := by
  rw [bl_sub s h0 (by omega) h]; congr 1; omega
set_option maxRecDepth 100000 in
theorem pun_any (s : ByteArray) (i : Int) (h0 : 0 ≤ i) (h1 : i < s.size) (hz : s.size ≤ 140737488355328) (w : World) :
    Calls Try.prog 169 #[.string s, .int .i64 i] w (PureP w fun v _ => v = .int .i64 (punE s i)) := by
  refine x_fun tt_ok Try.func169 rfl rfl [] 0 [.v (.string s), .v (.int .i64 i)] rfl rfl rfl rfl (fun b hb => by cases hb) ?_
  refine x_vc tt_ok ?_
  repeat (refine And.intro ?_ ?_; first | omega | (simp only [Lay.d_n]; omega) | (simp only [decide_eq_true_eq, decide_eq_false_iff_not, Bool.or_eq_false_iff, Bool.and_eq_true, Bool.or_eq_true, Bool.and_eq_false_iff, Bool.not_eq_true', Bool.not_eq_false', Lay.d_n]; omega) | (simp only [decide_eq_true_eq, decide_eq_false_iff_not, Bool.or_eq_false_iff, Bool.and_eq_true, Bool.or_eq_true, Bool.and_eq_false_iff, Bool.not_eq_true', Bool.not_eq_false']; omega))
  refine xl_min rfl rfl rfl rfl rfl rfl ?_
  have hm : (if (s.size : Int) - i < 4 then (s.size : Int) - i else 4) = ((min 4 (tl s i).length : Nat) : Int) := by
    rw [tl_len]; split <;> omega
  rw [hm]
  refine xl_go tt_ok ?_
  have hl : (tl s i).length = s.size - i.toNat := tl_len s i
  refine x_loop (σ := Nat) (fun n => ⟨[(5, .v (.int .i64 n)), (1, .v (.int .i64 i)), (0, .v (.string s))], [], [], 0⟩)
    (fun n _ => n ≤ (tl s i).length ∧ punE s i = atE i (Lx.punDown n (tl s i))) (fun n => n) (fun _ => Nat.le_refl _) (min 4 (tl s i).length) [] (.of rfl rfl rfl rfl rfl rfl)
    ⟨Nat.min_le_right .., rfl⟩ ?_
  rintro n u hu ⟨g1, g2⟩
  refine x_vc tt_ok ?_
  refine x_if (fun h => ?_) (fun h => ?_)
  · have h2 : 0 < (n : Int) := of_decide_eq_true h
    obtain ⟨m, rfl⟩ : ∃ m, n = m + 1 := ⟨n - 1, by omega⟩
    repeat (refine And.intro ?_ ?_; first | omega | (simp only [Lay.d_n]; omega) | (simp only [decide_eq_true_eq, decide_eq_false_iff_not, Bool.or_eq_false_iff, Bool.and_eq_true, Bool.or_eq_true, Bool.and_eq_false_iff, Bool.not_eq_true', Bool.not_eq_false', Lay.d_n]; omega) | (simp only [decide_eq_true_eq, decide_eq_false_iff_not, Bool.or_eq_false_iff, Bool.and_eq_true, Bool.or_eq_true, Bool.and_eq_false_iff, Bool.not_eq_true', Bool.not_eq_false']; omega))
    refine xl_call0 (.bool (Lx.isPun ((tl s i).take (m + 1)))) rfl rfl rfl rfl fn180 rfl rfl (fun E w F _ => by
      have := punct_any (sub s i (i + ((m + 1 : Nat) : Int))) w
      rw [bl_part s h0 (by omega) (by omega), Int.toNat_natCast] at this; exact this) ?_
    refine xl_go tt_ok ?_
    refine x_if (fun h3 => ?_) (fun h3 => ?_)
    · simp only [Lx.punDown, h3] at g2
      repeat (refine And.intro ?_ ?_; first | omega | (simp only [Lay.d_n]; omega) | (simp only [decide_eq_true_eq, decide_eq_false_iff_not, Bool.or_eq_false_iff, Bool.and_eq_true, Bool.or_eq_true, Bool.and_eq_false_iff, Bool.not_eq_true', Bool.not_eq_false', Lay.d_n]; omega) | (simp only [decide_eq_true_eq, decide_eq_false_iff_not, Bool.or_eq_false_iff, Bool.and_eq_true, Bool.or_eq_true, Bool.and_eq_false_iff, Bool.not_eq_true', Bool.not_eq_false']; omega))
      have e : punE s i = i + ((m + 1 : Nat) : Int) := g2
      rw [e]
      exact fin1 (fun _ _ => rfl)
    · simp only [Lx.punDown, h3] at g2
      repeat (refine And.intro ?_ ?_; first | omega | (simp only [Lay.d_n]; omega) | (simp only [decide_eq_true_eq, decide_eq_false_iff_not, Bool.or_eq_false_iff, Bool.and_eq_true, Bool.or_eq_true, Bool.and_eq_false_iff, Bool.not_eq_true', Bool.not_eq_false', Lay.d_n]; omega) | (simp only [decide_eq_true_eq, decide_eq_false_iff_not, Bool.or_eq_false_iff, Bool.and_eq_true, Bool.or_eq_true, Bool.and_eq_false_iff, Bool.not_eq_true', Bool.not_eq_false']; omega))
      rw [show ((m + 1 : Nat) : Int) - 1 = (m : Int) by omega]
      exact again m [] (.of rfl rfl rfl rfl rfl rfl) ⟨by omega, g2⟩ (by omega)
  · have h2 : ¬ 0 < (n : Int) := of_decide_eq_false h
    obtain rfl : n = 0 := by omega
    have e : punE s i = 0 := g2
    rw [e]
    exact fin1 (fun _ _ => rfl)
def itV (i : Int) (t : Lx.Item) : Value := if t.err = 0 then .tuple #[.agg #[.int .i64 t.kind, .int .i64 i, .int .i64 (i + t.len)], .int .i64 0]
  else .tuple #[.agg #[.int .i64 0, .int .i64 0, .int .i64 0], .int .i64 t.err]
def longL (l : Lx.Bs) : Lx.Item :=
  if l.head? = some 10 then ⟨9, 1, 0⟩
  else if (Lx.bestL l).1 ≠ 0 then ⟨(Lx.bestL l).1, (Lx.bestL l).2, 0⟩
  else if Lx.qHead l = true then ⟨0, 0, 21⟩
  else ⟨6, 1, 0⟩
theorem atE_lt {i : Int} (h0 : 0 ≤ i) (n m : Nat) : decide (i + (m : Int) < atE i n) = decide (m < n) := by
  unfold atE
  by_cases h : n = 0
  · subst h; simp; omega
  · rw [if_neg h]
    by_cases h2 : m < n
    · rw [decide_eq_true h2, decide_eq_true (by omega)]
    · rw [decide_eq_false h2, decide_eq_false (by omega)]
def stp (k : Int) (n : Nat) (b : Int × Nat) : Int × Nat := if b.2 < n then (k, n) else b
theorem bestG_stp (l : Lx.Bs) : Lx.bestL l = stp 5 (Lx.punN l) (stp 2 (Lx.numN l) (stp 1 (Lx.wordN l) (stp (Lx.litQ l).1 (Lx.litQ l).2 (0, 0)))) := by
  rw [← Lx.bestG_eq]; rfl
theorem stp_t {i : Int} {n m : Nat} {k k0 : Int} (h0 : 0 ≤ i) (h : decide (i + (m : Int) < atE i n) = true) : ∃ n' : Nat, atE i n = i + n' ∧ (k, n') = stp k n (k0, m) := by
  rw [atE_lt h0] at h
  have h := of_decide_eq_true h
  exact ⟨n, by rw [atE, if_neg (by omega)], by rw [stp, if_pos h]⟩
theorem stp_f {i : Int} {n m : Nat} {k k0 : Int} (h0 : 0 ≤ i) (h : decide (i + (m : Int) < atE i n) = false) : (k0, m) = stp k n (k0, m) := by
  rw [atE_lt h0] at h
  rw [stp, if_neg (of_decide_eq_false h)]
set_option maxRecDepth 100000 in
theorem long_any (s : ByteArray) (i : Int) (h0 : 0 ≤ i) (h1 : i < s.size) (hz : s.size ≤ 140737488355328) (w : World) :
    Calls Try.prog 153 #[.string s, .int .i64 i] w (PureP w fun v _ => v = itV i (longL (tl s i))) := by
  have hT : tl s i = bt s i :: tl s (i + 1) := tl_cons h0 h1
  refine x_fun tt_ok Try.func153 rfl rfl [] 0 [.v (.string s), .v (.int .i64 i)] rfl rfl rfl rfl (fun b hb => by cases hb) ?_
  refine x_seq ?_
  refine x_vc tt_ok ?_
  refine x_seq ?_
  refine x_vc tt_ok ?_
  repeat (refine And.intro ?_ ?_; first | omega | (simp only [Lay.d_n]; omega) | (simp only [decide_eq_true_eq, decide_eq_false_iff_not, Bool.or_eq_false_iff, Bool.and_eq_true, Bool.or_eq_true, Bool.and_eq_false_iff, Bool.not_eq_true', Bool.not_eq_false', Lay.d_n]; omega) | (simp only [decide_eq_true_eq, decide_eq_false_iff_not, Bool.or_eq_false_iff, Bool.and_eq_true, Bool.or_eq_true, Bool.and_eq_false_iff, Bool.not_eq_true', Bool.not_eq_false']; omega))
  refine x_seq ?_
  refine x_vc tt_ok ?_
  refine x_if (fun h => ?_) (fun h => ?_)
  · have h10 := of_decide_eq_true h
    repeat (refine And.intro ?_ ?_; first | omega | (simp only [Lay.d_n]; omega) | (simp only [decide_eq_true_eq, decide_eq_false_iff_not, Bool.or_eq_false_iff, Bool.and_eq_true, Bool.or_eq_true, Bool.and_eq_false_iff, Bool.not_eq_true', Bool.not_eq_false', Lay.d_n]; omega) | (simp only [decide_eq_true_eq, decide_eq_false_iff_not, Bool.or_eq_false_iff, Bool.and_eq_true, Bool.or_eq_true, Bool.and_eq_false_iff, Bool.not_eq_true', Bool.not_eq_false']; omega))
    have e : itV i (longL (tl s i)) = .tuple #[.agg #[.int .i64 9, .int .i64 i, .int .i64 (i + 1)], .int .i64 0] := by
      unfold longL; rw [hT, h10]; rfl
    rw [e]
    exact fin1 (fun _ _ => rfl)
  · have h10 := of_decide_eq_false h
    clear h
    refine x_seq ?_
    refine x_vc tt_ok ?_
    repeat (refine And.intro ?_ ?_; first | omega | (simp only [Lay.d_n]; omega) | (simp only [decide_eq_true_eq, decide_eq_false_iff_not, Bool.or_eq_false_iff, Bool.and_eq_true, Bool.or_eq_true, Bool.and_eq_false_iff, Bool.not_eq_true', Bool.not_eq_false', Lay.d_n]; omega) | (simp only [decide_eq_true_eq, decide_eq_false_iff_not, Bool.or_eq_false_iff, Bool.and_eq_true, Bool.or_eq_true, Bool.and_eq_false_iff, Bool.not_eq_true', Bool.not_eq_false']; omega))
    refine x_cut (σ := Int × Int) (fun b => ⟨[(7, .p 1 0), (6, .v (.int .u8 (bt s i))), (4, .p 0 0), (1, .v (.int .i64 i)), (0, .v (.string s))], [],
        [(1, .box 129 [.v (.int .i64 b.1), .v (.int .i64 i), .v (.int .i64 b.2)]), (0, .box 129 [.v (.int .i64 0), .v (.int .i64 0), .v (.int .i64 0)])], 2⟩)
      (fun b _ => ∃ n : Nat, b.2 = i + n ∧ (b.1, n) = (stp (Lx.litQ (tl s i)).1 (Lx.litQ (tl s i)).2 (0, 0))) (fun _ => Nat.le_refl 2) ?_ ?_
    · refine x_vc tt_ok ?_
      refine xl_call0 (.tuple #[.int .i64 (litE s i).1, .int .i64 (litE s i).2]) rfl rfl rfl rfl fn166 rfl rfl (fun E w F _ => lit_any s i h0 h1 hz w) ?_
      refine xl_go tt_ok ?_
      refine x_if (fun h => ?_) (fun h => ?_)
      · have h' : decide (i + ((0 : Nat) : Int) < atE i (Lx.litQ (tl s i)).2) = true := by rw [show i + ((0 : Nat) : Int) = i by omega]; exact h
        obtain ⟨n, h2, h3⟩ := stp_t (k := (litE s i).1) (k0 := 0) h0 h'
        repeat (refine And.intro ?_ ?_; first | omega | (simp only [Lay.d_n]; omega) | (simp only [decide_eq_true_eq, decide_eq_false_iff_not, Bool.or_eq_false_iff, Bool.and_eq_true, Bool.or_eq_true, Bool.and_eq_false_iff, Bool.not_eq_true', Bool.not_eq_false', Lay.d_n]; omega) | (simp only [decide_eq_true_eq, decide_eq_false_iff_not, Bool.or_eq_false_iff, Bool.and_eq_true, Bool.or_eq_true, Bool.and_eq_false_iff, Bool.not_eq_true', Bool.not_eq_false']; omega))
        exact meet ((litE s i).1, (litE s i).2) [] (.of rfl rfl rfl rfl rfl rfl) ⟨n, h2, h3⟩
      · have h' : decide (i + ((0 : Nat) : Int) < atE i (Lx.litQ (tl s i)).2) = false := by rw [show i + ((0 : Nat) : Int) = i by omega]; exact h
        exact meet (0, i) [] (.of rfl rfl rfl rfl rfl rfl) ⟨0, by simp, stp_f h0 h'⟩
    · rintro ⟨kd, ed⟩ u1 hu1 ⟨n0, e0, hb⟩
      replace e0 : ed = i + (n0 : Int) := e0
      subst e0
      replace hb : (kd, n0) = (stp (Lx.litQ (tl s i)).1 (Lx.litQ (tl s i)).2 (0, 0)) := hb
      refine x_cut (σ := Int × Int) (fun b => ⟨[(7, .p 1 0), (6, .v (.int .u8 (bt s i))), (4, .p 0 0), (1, .v (.int .i64 i)), (0, .v (.string s))], [],
          [(1, .box 129 [.v (.int .i64 b.1), .v (.int .i64 i), .v (.int .i64 b.2)]), (0, .box 129 [.v (.int .i64 0), .v (.int .i64 0), .v (.int .i64 0)])], 2⟩)
        (fun b _ => ∃ n : Nat, b.2 = i + n ∧ (b.1, n) = (stp 1 (Lx.wordN (tl s i)) (stp (Lx.litQ (tl s i)).1 (Lx.litQ (tl s i)).2 (0, 0)))) (fun _ => Nat.le_refl 2) ?_ ?_
      · refine x_vc tt_ok ?_
        refine xl_call0 (.int .i64 (wordE s i)) rfl rfl rfl rfl fn167 rfl rfl (fun E w F _ => word_any s i h0 h1 hz w) ?_
        refine xl_go tt_ok ?_
        refine x_if (fun h => ?_) (fun h => ?_)
        · obtain ⟨n, h2, h3⟩ := stp_t (k := 1) (k0 := kd) h0 h
          rw [hb] at h3
          repeat (refine And.intro ?_ ?_; first | omega | (simp only [Lay.d_n]; omega) | (simp only [decide_eq_true_eq, decide_eq_false_iff_not, Bool.or_eq_false_iff, Bool.and_eq_true, Bool.or_eq_true, Bool.and_eq_false_iff, Bool.not_eq_true', Bool.not_eq_false', Lay.d_n]; omega) | (simp only [decide_eq_true_eq, decide_eq_false_iff_not, Bool.or_eq_false_iff, Bool.and_eq_true, Bool.or_eq_true, Bool.and_eq_false_iff, Bool.not_eq_true', Bool.not_eq_false']; omega))
          exact meet (1, (wordE s i)) [] (.of rfl rfl rfl rfl rfl rfl) ⟨n, h2, h3⟩
        · have h3 := stp_f (k := 1) (k0 := kd) h0 h
          exact meet (kd, i + (n0 : Int)) [] (.of rfl rfl rfl rfl rfl rfl) ⟨n0, rfl, h3.trans (by rw [hb])⟩
      · rintro ⟨kd, ed⟩ u2 hu2 ⟨n0, e0, hb⟩
        replace e0 : ed = i + (n0 : Int) := e0
        subst e0
        replace hb : (kd, n0) = (stp 1 (Lx.wordN (tl s i)) (stp (Lx.litQ (tl s i)).1 (Lx.litQ (tl s i)).2 (0, 0))) := hb
        refine x_cut (σ := Int × Int) (fun b => ⟨[(7, .p 1 0), (6, .v (.int .u8 (bt s i))), (4, .p 0 0), (1, .v (.int .i64 i)), (0, .v (.string s))], [],
            [(1, .box 129 [.v (.int .i64 b.1), .v (.int .i64 i), .v (.int .i64 b.2)]), (0, .box 129 [.v (.int .i64 0), .v (.int .i64 0), .v (.int .i64 0)])], 2⟩)
          (fun b _ => ∃ n : Nat, b.2 = i + n ∧ (b.1, n) = (stp 2 (Lx.numN (tl s i)) (stp 1 (Lx.wordN (tl s i)) (stp (Lx.litQ (tl s i)).1 (Lx.litQ (tl s i)).2 (0, 0))))) (fun _ => Nat.le_refl 2) ?_ ?_
        · refine x_vc tt_ok ?_
          refine xl_call0 (.int .i64 (numE s i)) rfl rfl rfl rfl fn168 rfl rfl (fun E w F _ => num_any s i h0 h1 hz w) ?_
          refine xl_go tt_ok ?_
          refine x_if (fun h => ?_) (fun h => ?_)
          · obtain ⟨n, h2, h3⟩ := stp_t (k := 2) (k0 := kd) h0 h
            rw [hb] at h3
            repeat (refine And.intro ?_ ?_; first | omega | (simp only [Lay.d_n]; omega) | (simp only [decide_eq_true_eq, decide_eq_false_iff_not, Bool.or_eq_false_iff, Bool.and_eq_true, Bool.or_eq_true, Bool.and_eq_false_iff, Bool.not_eq_true', Bool.not_eq_false', Lay.d_n]; omega) | (simp only [decide_eq_true_eq, decide_eq_false_iff_not, Bool.or_eq_false_iff, Bool.and_eq_true, Bool.or_eq_true, Bool.and_eq_false_iff, Bool.not_eq_true', Bool.not_eq_false']; omega))
            exact meet (2, (numE s i)) [] (.of rfl rfl rfl rfl rfl rfl) ⟨n, h2, h3⟩
          · have h3 := stp_f (k := 2) (k0 := kd) h0 h
            exact meet (kd, i + (n0 : Int)) [] (.of rfl rfl rfl rfl rfl rfl) ⟨n0, rfl, h3.trans (by rw [hb])⟩
        · rintro ⟨kd, ed⟩ u3 hu3 ⟨n0, e0, hb⟩
          replace e0 : ed = i + (n0 : Int) := e0
          subst e0
          replace hb : (kd, n0) = (stp 2 (Lx.numN (tl s i)) (stp 1 (Lx.wordN (tl s i)) (stp (Lx.litQ (tl s i)).1 (Lx.litQ (tl s i)).2 (0, 0)))) := hb
          refine x_cut (σ := Int × Int) (fun b => ⟨[(7, .p 1 0), (6, .v (.int .u8 (bt s i))), (4, .p 0 0), (1, .v (.int .i64 i)), (0, .v (.string s))], [],
              [(1, .box 129 [.v (.int .i64 b.1), .v (.int .i64 i), .v (.int .i64 b.2)]), (0, .box 129 [.v (.int .i64 0), .v (.int .i64 0), .v (.int .i64 0)])], 2⟩)
            (fun b _ => ∃ n : Nat, b.2 = i + n ∧ (b.1, n) = (stp 5 (Lx.punN (tl s i)) (stp 2 (Lx.numN (tl s i)) (stp 1 (Lx.wordN (tl s i)) (stp (Lx.litQ (tl s i)).1 (Lx.litQ (tl s i)).2 (0, 0)))))) (fun _ => Nat.le_refl 2) ?_ ?_
          · refine x_vc tt_ok ?_
            refine xl_call0 (.int .i64 (punE s i)) rfl rfl rfl rfl fn169 rfl rfl (fun E w F _ => pun_any s i h0 h1 hz w) ?_
            refine xl_go tt_ok ?_
            refine x_if (fun h => ?_) (fun h => ?_)
            · obtain ⟨n, h2, h3⟩ := stp_t (k := 5) (k0 := kd) h0 h
              rw [hb] at h3
              repeat (refine And.intro ?_ ?_; first | omega | (simp only [Lay.d_n]; omega) | (simp only [decide_eq_true_eq, decide_eq_false_iff_not, Bool.or_eq_false_iff, Bool.and_eq_true, Bool.or_eq_true, Bool.and_eq_false_iff, Bool.not_eq_true', Bool.not_eq_false', Lay.d_n]; omega) | (simp only [decide_eq_true_eq, decide_eq_false_iff_not, Bool.or_eq_false_iff, Bool.and_eq_true, Bool.or_eq_true, Bool.and_eq_false_iff, Bool.not_eq_true', Bool.not_eq_false']; omega))
              exact meet (5, (punE s i)) [] (.of rfl rfl rfl rfl rfl rfl) ⟨n, h2, h3⟩
            · have h3 := stp_f (k := 5) (k0 := kd) h0 h
              exact meet (kd, i + (n0 : Int)) [] (.of rfl rfl rfl rfl rfl rfl) ⟨n0, rfl, h3.trans (by rw [hb])⟩
          · rintro ⟨kd, ed⟩ u4 hu4 ⟨n0, e0, hb⟩
            replace e0 : ed = i + (n0 : Int) := e0
            subst e0
            replace hb : (kd, n0) = (stp 5 (Lx.punN (tl s i)) (stp 2 (Lx.numN (tl s i)) (stp 1 (Lx.wordN (tl s i)) (stp (Lx.litQ (tl s i)).1 (Lx.litQ (tl s i)).2 (0, 0))))) := hb
            rw [← bestG_stp] at hb
            have q1 : (Lx.bestL (tl s i)).1 = kd := by rw [← hb]
            have q2 : (Lx.bestL (tl s i)).2 = n0 := by rw [← hb]
            have hL : longL (tl s i) = if kd ≠ 0 then ⟨kd, n0, 0⟩ else if Lx.qHead (tl s i) = true then ⟨0, 0, 21⟩ else ⟨6, 1, 0⟩ := by
              unfold longL; rw [q1, q2, hT, List.head?_cons, if_neg (by simpa using h10)]
            rw [hT] at hL
            rw [hT, hL]
            refine x_vc tt_ok ?_
            refine x_if (fun h => ?_) (fun h => ?_)
            · rw [if_pos (of_decide_eq_true h)]
              exact fin1 (fun _ _ => rfl)
            · rw [if_neg (of_decide_eq_false h)]
              refine x_if (fun h2 => ?_) (fun h2 => ?_)
              · have h2' : Lx.qHead (bt s i :: tl s (i + 1)) = true := h2
                rw [if_pos h2']
                exact fin1 (fun _ _ => rfl)
              · have h2' : Lx.qHead (bt s i :: tl s (i + 1)) = false := h2
                rw [if_neg (by rw [h2']; simp)]
                repeat (refine And.intro ?_ ?_; first | omega | (simp only [Lay.d_n]; omega) | (simp only [decide_eq_true_eq, decide_eq_false_iff_not, Bool.or_eq_false_iff, Bool.and_eq_true, Bool.or_eq_true, Bool.and_eq_false_iff, Bool.not_eq_true', Bool.not_eq_false', Lay.d_n]; omega) | (simp only [decide_eq_true_eq, decide_eq_false_iff_not, Bool.or_eq_false_iff, Bool.and_eq_true, Bool.or_eq_true, Bool.and_eq_false_iff, Bool.not_eq_true', Bool.not_eq_false']; omega))
                exact fin1 (fun _ _ => rfl)
end Go.Proofs.Ytdonomneofdhfaa
namespace Go.Proofs
open Go.Shelf
def Try.lays137_ren : Go.Shelf.Ren := ⟨fun | 137 => 118 | 217 => 144 | 266 => 159 | n => n, fun | 9 => 9 | 5 => 5 | 3 => 3 | n => n, fun | n => n⟩
theorem Try.lays137 : Go.Proofs.Lays.n137 Try.prog Try.lays137_ren := {
  mixed := by kernel_rfl
  f137 := Try.func118.trans (congrArg some (by kernel_rfl))
  f217 := Try.func144.trans (congrArg some (by kernel_rfl))
  f266 := Try.func159.trans (congrArg some (by kernel_rfl))
  t3 := Try.underlying3
  a3 := Try.isAgg3
  z3 := Try.sizeOf3
  v3 := Try.zeroValue3
  t5 := Try.underlying5
  a5 := Try.isAgg5
  z5 := Try.sizeOf5
  v5 := Try.zeroValue5
  t9 := Try.underlying9
  a9 := Try.isAgg9
  z9 := Try.sizeOf9
  v9 := Try.zeroValue9 }
open Go.RowKit in
theorem Try.strings_IndexByte (s : ByteArray) (c : Int) (w : World) :
    Calls Try.prog 118 #[.string s, .int .u8 c] w fun e w' => e = .returned (.int .i64 (Lib.indexByte s.data.toList c.toNat.toUInt8)) ∧ w' = w := Any.strings_IndexByte Try.lays137 s c w
def Try.lays143_ren : Go.Shelf.Ren := ⟨fun | 143 => 152 | 219 => 165 | 217 => 144 | 225 => 175 | 224 => 176 | 267 => 177 | 266 => 159 | 314 => 187 | n => n, fun | 9 => 9 | 3 => 3 | 4 => 4 | 5 => 5 | 46 => 165 | 146 => 214 | 51 => 213 | n => n, fun | 1 => 0 | n => n⟩
theorem Try.lays143 : Go.Proofs.Lays.n143 Try.prog Try.lays143_ren := {
  mixed := by kernel_rfl
  f143 := Try.func152.trans (congrArg some (by kernel_rfl))
  f217 := Try.func144.trans (congrArg some (by kernel_rfl))
  f219 := Try.func165.trans (congrArg some (by kernel_rfl))
  f224 := Try.func176.trans (congrArg some (by kernel_rfl))
  f225 := Try.func175.trans (congrArg some (by kernel_rfl))
  f266 := Try.func159.trans (congrArg some (by kernel_rfl))
  f267 := Try.func177.trans (congrArg some (by kernel_rfl))
  f314 := Try.func187.trans (congrArg some (by kernel_rfl))
  t3 := Try.underlying3
  a3 := Try.isAgg3
  z3 := Try.sizeOf3
  v3 := Try.zeroValue3
  t4 := Try.underlying4
  a4 := Try.isAgg4
  z4 := Try.sizeOf4
  v4 := Try.zeroValue4
  t5 := Try.underlying5
  a5 := Try.isAgg5
  z5 := Try.sizeOf5
  v5 := Try.zeroValue5
  t9 := Try.underlying9
  a9 := Try.isAgg9
  z9 := Try.sizeOf9
  v9 := Try.zeroValue9
  t46 := Try.underlying165
  a46 := Try.isAgg165
  z46 := Try.sizeOf165
  v46 := Try.zeroValue165
  t51 := Try.underlying213
  a51 := Try.isAgg213
  z51 := Try.sizeOf213
  v51 := Try.zeroValue213
  t146 := Try.underlying214
  a146 := Try.isAgg214
  z146 := Try.sizeOf214
  v146 := Try.zeroValue214
  g1 := by kernel_rfl }
open Go.RowKit Go.Lib in
theorem Try.strings_Index (s sub : ByteArray) (m : Int) (w : World) (hs : s.size < 4294967281) (hm : w.cell? ⟨0, 0, none⟩ = some (.int .i64 m)) :
    Calls Try.prog 152 #[.string s, .string sub] w fun e w' => e = .returned (.int .i64 (Lib.index s.data.toList sub.data.toList)) ∧ w' = w := Any.strings_Index Try.lays143 s sub m w hs hm
def Try.laysM143_ren : Go.Shelf.Ren := ⟨fun | 143 => 152 | 219 => 165 | 217 => 144 | 225 => 175 | 224 => 176 | 267 => 177 | 266 => 159 | 314 => 187 | n => n, fun | 9 => 9 | 3 => 3 | 4 => 4 | 5 => 5 | 46 => 165 | 146 => 214 | 51 => 213 | n => n, fun | 1 => 0 | n => n⟩
theorem Try.laysM143 : Go.Proofs.LaysM.n143 Try.prog Try.laysM143_ren := {
  mixed := by kernel_rfl
  f143 := Try.func152.trans (congrArg some (by kernel_rfl))
  f217 := Try.func144.trans (congrArg some (by kernel_rfl))
  f219 := Try.func165.trans (congrArg some (by kernel_rfl))
  f224 := Try.func176.trans (congrArg some (by kernel_rfl))
  f225 := Try.func175.trans (congrArg some (by kernel_rfl))
  f266 := Try.func159.trans (congrArg some (by kernel_rfl))
  f267 := Try.func177.trans (congrArg some (by kernel_rfl))
  f314 := Try.func187.trans (congrArg some (by kernel_rfl))
  t3 := Try.underlying3
  a3 := Try.isAgg3
  z3 := Try.sizeOf3
  v3 := Try.zeroValue3
  t4 := Try.underlying4
  a4 := Try.isAgg4
  z4 := Try.sizeOf4
  v4 := Try.zeroValue4
  t5 := Try.underlying5
  a5 := Try.isAgg5
  z5 := Try.sizeOf5
  v5 := Try.zeroValue5
  t9 := Try.underlying9
  a9 := Try.isAgg9
  z9 := Try.sizeOf9
  v9 := Try.zeroValue9
  t46 := Try.underlying165
  a46 := Try.isAgg165
  z46 := Try.sizeOf165
  v46 := Try.zeroValue165
  t51 := Try.underlying213
  a51 := Try.isAgg213
  z51 := Try.sizeOf213
  v51 := Try.zeroValue213
  t146 := Try.underlying214
  a146 := Try.isAgg214
  z146 := Try.sizeOf214
  v146 := Try.zeroValue214
  g1 := by kernel_rfl
  i3 := by kernel_rfl
  i4 := by kernel_rfl
  i5 := by kernel_rfl
  i9 := by kernel_rfl
  i46 := by kernel_rfl
  i51 := by kernel_rfl
  i146 := by kernel_rfl
  m1 := by kernel_rfl
  s1_3 := fun w h => Go.Proofs.cell_of_shapedOpen_int (zero := #[.int .i64 0]) (t := 3) h (of_decide_eq_true (by kernel_rfl)) (by kernel_rfl) rfl (by kernel_rfl) (by kernel_rfl) Try.underlying3 }
end Go.Proofs
