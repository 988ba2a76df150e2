/- Part 4 of the lemmas behind the claim: Ty, S1, S2, P1, P2, P3, S3, W3, E1, E2, E3, E4, E5, H, E6, E7, E8, GY, B1, B2, L1, L2, L3, L4, L5, A1, T1, R1, E9, R2, R3, T2, T3, T4, W4. -/
import Derived.Test.YtdonomneofdhfaaZF3
import Derived.Test.YtdonomneofdhfaaProg
import Derived.KernelRfl
import Derived.Laws.Externs
import Derived.Shelf.Small.Strs
import Derived.Shelf.Strings.Search3
import Derived.Shelf.LaysM
set_option linter.unusedSimpArgs false
set_option linter.unusedVariables false
namespace Go.Proofs.Ytdonomneofdhfaa
open Go.GV
def ti2 : TI := ⟨1, [.int .i64 0], .int .i64, false⟩
theorem tiok2 : TIok Try.prog 2 ti2 := ⟨⟨_, Try.underlying2, rfl⟩, by kernel_rfl, rfl, fun _ => ⟨rfl, rfl⟩, fun h => (by cases h)⟩
def ti3 : TI := ⟨1, [.int .i64 0], .int .i64, false⟩
theorem tiok3 : TIok Try.prog 3 ti3 := ⟨⟨_, Try.underlying3, rfl⟩, by kernel_rfl, rfl, fun _ => ⟨rfl, rfl⟩, fun h => (by cases h)⟩
def ti4 : TI := ⟨1, [.bool false], .bool, false⟩
theorem tiok4 : TIok Try.prog 4 ti4 := ⟨⟨_, Try.underlying4, rfl⟩, by kernel_rfl, rfl, fun _ => ⟨rfl, rfl⟩, fun h => (by cases h)⟩
def ti5 : TI := ⟨1, [.int .u8 0], .int .u8, false⟩
theorem tiok5 : TIok Try.prog 5 ti5 := ⟨⟨_, Try.underlying5, rfl⟩, by kernel_rfl, rfl, fun _ => ⟨rfl, rfl⟩, fun h => (by cases h)⟩
def ti6 : TI := ⟨1, [.int .u8 0], .int .u8, false⟩
theorem tiok6 : TIok Try.prog 6 ti6 := ⟨⟨_, Try.underlying6, rfl⟩, by kernel_rfl, rfl, fun _ => ⟨rfl, rfl⟩, fun h => (by cases h)⟩
def ti9 : TI := ⟨1, [.string ⟨#[]⟩], .str, false⟩
theorem tiok9 : TIok Try.prog 9 ti9 := ⟨⟨_, Try.underlying9, rfl⟩, by kernel_rfl, rfl, fun _ => ⟨rfl, rfl⟩, fun h => (by cases h)⟩
def ti10 : TI := ⟨1, [.string ⟨#[]⟩], .str, false⟩
theorem tiok10 : TIok Try.prog 10 ti10 := ⟨⟨_, Try.underlying10, rfl⟩, by kernel_rfl, rfl, fun _ => ⟨rfl, rfl⟩, fun h => (by cases h)⟩
def ti11 : TI := ⟨1, [.string ⟨#[]⟩], .str, false⟩
theorem tiok11 : TIok Try.prog 11 ti11 := ⟨⟨_, Try.underlying11, rfl⟩, by kernel_rfl, rfl, fun _ => ⟨rfl, rfl⟩, fun h => (by cases h)⟩
def ti37 : TI := ⟨1, [.int .i64 0], .int .i64, false⟩
theorem tiok37 : TIok Try.prog 37 ti37 := ⟨⟨_, Try.underlying37, rfl⟩, by kernel_rfl, rfl, fun _ => ⟨rfl, rfl⟩, fun h => (by cases h)⟩
def ti221 : TI := ⟨1, [.int .u8 0], .int .u8, false⟩
theorem tiok221 : TIok Try.prog 221 ti221 := ⟨⟨_, Try.underlying221, rfl⟩, by kernel_rfl, rfl, fun _ => ⟨rfl, rfl⟩, fun h => (by cases h)⟩
def ti222 : TI := ⟨1, [.int .u8 0], .int .u8, false⟩
theorem tiok222 : TIok Try.prog 222 ti222 := ⟨⟨_, Try.underlying222, rfl⟩, by kernel_rfl, rfl, fun _ => ⟨rfl, rfl⟩, fun h => (by cases h)⟩
def ti7 : TI := ⟨4, [.int .i64 0, .int .i64 0, .bool false, .int .u8 0], .strct [(0, 2), (1, 3), (2, 4), (3, 6)], false⟩
theorem tiok7 : TIok Try.prog 7 ti7 := ⟨⟨_, Try.underlying7, _, rfl, rfl⟩, by kernel_rfl, rfl, fun h => (by cases h), fun h => (by cases h)⟩
def ti8 : TI := ⟨4, [.int .i64 0, .int .i64 0, .bool false, .int .u8 0], .strct [(0, 2), (1, 3), (2, 4), (3, 6)], false⟩
theorem tiok8 : TIok Try.prog 8 ti8 := ⟨⟨_, Try.underlying8, _, rfl, rfl⟩, by kernel_rfl, rfl, fun h => (by cases h), fun h => (by cases h)⟩
def ti13 : TI := ⟨2, [.string ⟨#[]⟩, .int .u64 0], .strct [(0, 9), (1, 12)], false⟩
theorem tiok13 : TIok Try.prog 13 ti13 := ⟨⟨_, Try.underlying13, _, rfl, rfl⟩, by kernel_rfl, rfl, fun h => (by cases h), fun h => (by cases h)⟩
def ti14 : TI := ⟨2, [.string ⟨#[]⟩, .int .u64 0], .strct [(0, 9), (1, 12)], false⟩
theorem tiok14 : TIok Try.prog 14 ti14 := ⟨⟨_, Try.underlying14, _, rfl, rfl⟩, by kernel_rfl, rfl, fun h => (by cases h), fun h => (by cases h)⟩
def ti18 : TI := ⟨1, [.pointer none], .strct [(0, 17)], false⟩
theorem tiok18 : TIok Try.prog 18 ti18 := ⟨⟨_, Try.underlying18, _, rfl, rfl⟩, by kernel_rfl, rfl, fun h => (by cases h), fun h => (by cases h)⟩
def ti19 : TI := ⟨1, [.pointer none], .strct [(0, 17)], false⟩
theorem tiok19 : TIok Try.prog 19 ti19 := ⟨⟨_, Try.underlying19, _, rfl, rfl⟩, by kernel_rfl, rfl, fun h => (by cases h), fun h => (by cases h)⟩
def ti22 : TI := ⟨1, [.slice none 0 0], .slice 31, false⟩
theorem tiok22 : TIok Try.prog 22 ti22 := ⟨⟨_, Try.underlying22, rfl⟩, by kernel_rfl, rfl, fun _ => ⟨rfl, rfl⟩, fun h => (by cases h)⟩
def ti23 : TI := ⟨1, [.slice none 0 0], .slice 28, false⟩
theorem tiok23 : TIok Try.prog 23 ti23 := ⟨⟨_, Try.underlying23, rfl⟩, by kernel_rfl, rfl, fun _ => ⟨rfl, rfl⟩, fun h => (by cases h)⟩
def ti27 : TI := ⟨3, [.bool false, .string ⟨#[]⟩, .slice none 0 0], .strct [(0, 4), (1, 9), (2, 22)], false⟩
theorem tiok27 : TIok Try.prog 27 ti27 := ⟨⟨_, Try.underlying27, _, rfl, rfl⟩, by kernel_rfl, rfl, fun h => (by cases h), fun h => (by cases h)⟩
def ti28 : TI := ⟨3, [.bool false, .string ⟨#[]⟩, .slice none 0 0], .strct [(0, 4), (1, 9), (2, 22)], false⟩
theorem tiok28 : TIok Try.prog 28 ti28 := ⟨⟨_, Try.underlying28, _, rfl, rfl⟩, by kernel_rfl, rfl, fun h => (by cases h), fun h => (by cases h)⟩
def ti30 : TI := ⟨5, [.int .i64 0, .string ⟨#[]⟩, .int .i64 0, .int .i64 0, .bool false], .strct [(0, 3), (1, 9), (2, 3), (3, 3), (4, 4)], true⟩
theorem tiok30 : TIok Try.prog 30 ti30 := ⟨⟨_, Try.underlying30, _, rfl, rfl⟩, by kernel_rfl, rfl, fun h => (by cases h), fun _ => ⟨by kernel_rfl, by kernel_rfl, by kernel_rfl⟩⟩
def ti31 : TI := ⟨5, [.int .i64 0, .string ⟨#[]⟩, .int .i64 0, .int .i64 0, .bool false], .strct [(0, 3), (1, 9), (2, 3), (3, 3), (4, 4)], true⟩
theorem tiok31 : TIok Try.prog 31 ti31 := ⟨⟨_, Try.underlying31, _, rfl, rfl⟩, by kernel_rfl, rfl, fun h => (by cases h), fun _ => ⟨by kernel_rfl, by kernel_rfl, by kernel_rfl⟩⟩
def ti33 : TI := ⟨1, [.slice none 0 0], .slice 9, false⟩
theorem tiok33 : TIok Try.prog 33 ti33 := ⟨⟨_, Try.underlying33, rfl⟩, by kernel_rfl, rfl, fun _ => ⟨rfl, rfl⟩, fun h => (by cases h)⟩
def ti34 : TI := ⟨1, [.slice none 0 0], .slice 46, false⟩
theorem tiok34 : TIok Try.prog 34 ti34 := ⟨⟨_, Try.underlying34, rfl⟩, by kernel_rfl, rfl, fun _ => ⟨rfl, rfl⟩, fun h => (by cases h)⟩
def ti35 : TI := ⟨5, [.string ⟨#[]⟩, .bool false, .slice none 0 0, .bool false, .slice none 0 0], .strct [(0, 9), (1, 4), (2, 33), (3, 4), (4, 34)], false⟩
theorem tiok35 : TIok Try.prog 35 ti35 := ⟨⟨_, Try.underlying35, _, rfl, rfl⟩, by kernel_rfl, rfl, fun h => (by cases h), fun h => (by cases h)⟩
def ti36 : TI := ⟨5, [.string ⟨#[]⟩, .bool false, .slice none 0 0, .bool false, .slice none 0 0], .strct [(0, 9), (1, 4), (2, 33), (3, 4), (4, 34)], false⟩
theorem tiok36 : TIok Try.prog 36 ti36 := ⟨⟨_, Try.underlying36, _, rfl, rfl⟩, by kernel_rfl, rfl, fun h => (by cases h), fun h => (by cases h)⟩
def ti45 : TI := ⟨4, [.int .i64 0, .string ⟨#[]⟩, .bool false, .slice none 0 0], .strct [(0, 3), (1, 9), (2, 4), (3, 33)], false⟩
theorem tiok45 : TIok Try.prog 45 ti45 := ⟨⟨_, Try.underlying45, _, rfl, rfl⟩, by kernel_rfl, rfl, fun h => (by cases h), fun h => (by cases h)⟩
def ti46 : TI := ⟨4, [.int .i64 0, .string ⟨#[]⟩, .bool false, .slice none 0 0], .strct [(0, 3), (1, 9), (2, 4), (3, 33)], false⟩
theorem tiok46 : TIok Try.prog 46 ti46 := ⟨⟨_, Try.underlying46, _, rfl, rfl⟩, by kernel_rfl, rfl, fun h => (by cases h), fun h => (by cases h)⟩
def ti61 : TI := ⟨1, [.slice none 0 0], .slice 5, false⟩
theorem tiok61 : TIok Try.prog 61 ti61 := ⟨⟨_, Try.underlying61, rfl⟩, by kernel_rfl, rfl, fun _ => ⟨rfl, rfl⟩, fun h => (by cases h)⟩
def ti64 : TI := ⟨1, [.slice none 0 0], .slice 3, false⟩
theorem tiok64 : TIok Try.prog 64 ti64 := ⟨⟨_, Try.underlying64, rfl⟩, by kernel_rfl, rfl, fun _ => ⟨rfl, rfl⟩, fun h => (by cases h)⟩
def ti77 : TI := ⟨1, [.slice none 0 0], .slice 2, false⟩
theorem tiok77 : TIok Try.prog 77 ti77 := ⟨⟨_, Try.underlying77, rfl⟩, by kernel_rfl, rfl, fun _ => ⟨rfl, rfl⟩, fun h => (by cases h)⟩
def ti85 : TI := ⟨2, [.int .i64 0, .string ⟨#[]⟩], .strct [(0, 3), (1, 9)], true⟩
theorem tiok85 : TIok Try.prog 85 ti85 := ⟨⟨_, Try.underlying85, _, rfl, rfl⟩, by kernel_rfl, rfl, fun h => (by cases h), fun _ => ⟨by kernel_rfl, by kernel_rfl, by kernel_rfl⟩⟩
def ti86 : TI := ⟨2, [.int .i64 0, .string ⟨#[]⟩], .strct [(0, 3), (1, 9)], true⟩
theorem tiok86 : TIok Try.prog 86 ti86 := ⟨⟨_, Try.underlying86, _, rfl, rfl⟩, by kernel_rfl, rfl, fun h => (by cases h), fun _ => ⟨by kernel_rfl, by kernel_rfl, by kernel_rfl⟩⟩
def ti97 : TI := ⟨1, [.slice none 0 0], .slice 86, false⟩
theorem tiok97 : TIok Try.prog 97 ti97 := ⟨⟨_, Try.underlying97, rfl⟩, by kernel_rfl, rfl, fun _ => ⟨rfl, rfl⟩, fun h => (by cases h)⟩
def ti128 : TI := ⟨3, [.int .i64 0, .int .i64 0, .int .i64 0], .strct [(0, 3), (1, 3), (2, 3)], true⟩
theorem tiok128 : TIok Try.prog 128 ti128 := ⟨⟨_, Try.underlying128, _, rfl, rfl⟩, by kernel_rfl, rfl, fun h => (by cases h), fun _ => ⟨by kernel_rfl, by kernel_rfl, by kernel_rfl⟩⟩
def ti129 : TI := ⟨3, [.int .i64 0, .int .i64 0, .int .i64 0], .strct [(0, 3), (1, 3), (2, 3)], true⟩
theorem tiok129 : TIok Try.prog 129 ti129 := ⟨⟨_, Try.underlying129, _, rfl, rfl⟩, by kernel_rfl, rfl, fun h => (by cases h), fun _ => ⟨by kernel_rfl, by kernel_rfl, by kernel_rfl⟩⟩
def ti132 : TI := ⟨1, [.slice none 0 0], .slice 136, false⟩
theorem tiok132 : TIok Try.prog 132 ti132 := ⟨⟨_, Try.underlying132, rfl⟩, by kernel_rfl, rfl, fun _ => ⟨rfl, rfl⟩, fun h => (by cases h)⟩
def ti135 : TI := ⟨3, [.int .u8 0, .int .i64 0, .int .i64 0], .strct [(0, 5), (1, 3), (2, 3)], true⟩
theorem tiok135 : TIok Try.prog 135 ti135 := ⟨⟨_, Try.underlying135, _, rfl, rfl⟩, by kernel_rfl, rfl, fun h => (by cases h), fun _ => ⟨by kernel_rfl, by kernel_rfl, by kernel_rfl⟩⟩
def ti136 : TI := ⟨3, [.int .u8 0, .int .i64 0, .int .i64 0], .strct [(0, 5), (1, 3), (2, 3)], true⟩
theorem tiok136 : TIok Try.prog 136 ti136 := ⟨⟨_, Try.underlying136, _, rfl, rfl⟩, by kernel_rfl, rfl, fun h => (by cases h), fun _ => ⟨by kernel_rfl, by kernel_rfl, by kernel_rfl⟩⟩
def ti138 : TI := ⟨2, [.pointer none, .slice none 0 0], .strct [(0, 137), (1, 61)], false⟩
theorem tiok138 : TIok Try.prog 138 ti138 := ⟨⟨_, Try.underlying138, _, rfl, rfl⟩, by kernel_rfl, rfl, fun h => (by cases h), fun h => (by cases h)⟩
def ti139 : TI := ⟨2, [.pointer none, .slice none 0 0], .strct [(0, 137), (1, 61)], false⟩
theorem tiok139 : TIok Try.prog 139 ti139 := ⟨⟨_, Try.underlying139, _, rfl, rfl⟩, by kernel_rfl, rfl, fun h => (by cases h), fun h => (by cases h)⟩
def ti148 : TI := ⟨1, [.slice none 0 0], .slice 4, false⟩
theorem tiok148 : TIok Try.prog 148 ti148 := ⟨⟨_, Try.underlying148, rfl⟩, by kernel_rfl, rfl, fun _ => ⟨rfl, rfl⟩, fun h => (by cases h)⟩
def ti186 : TI := ⟨4, [.int .u8 0, .int .i64 0, .int .i64 0, .bool false], .strct [(0, 136), (3, 4)], true⟩
theorem tiok186 : TIok Try.prog 186 ti186 := ⟨⟨_, Try.underlying186, _, rfl, rfl⟩, by kernel_rfl, rfl, fun h => (by cases h), fun _ => ⟨by kernel_rfl, by kernel_rfl, by kernel_rfl⟩⟩
def ti187 : TI := ⟨4, [.int .u8 0, .int .i64 0, .int .i64 0, .bool false], .strct [(0, 136), (3, 4)], true⟩
theorem tiok187 : TIok Try.prog 187 ti187 := ⟨⟨_, Try.underlying187, _, rfl, rfl⟩, by kernel_rfl, rfl, fun h => (by cases h), fun _ => ⟨by kernel_rfl, by kernel_rfl, by kernel_rfl⟩⟩
def ti195 : TI := ⟨3, [.int .i64 0, .string ⟨#[]⟩, .bool false], .strct [(0, 3), (1, 9), (2, 4)], true⟩
theorem tiok195 : TIok Try.prog 195 ti195 := ⟨⟨_, Try.underlying195, _, rfl, rfl⟩, by kernel_rfl, rfl, fun h => (by cases h), fun _ => ⟨by kernel_rfl, by kernel_rfl, by kernel_rfl⟩⟩
def ti196 : TI := ⟨3, [.int .i64 0, .string ⟨#[]⟩, .bool false], .strct [(0, 3), (1, 9), (2, 4)], true⟩
theorem tiok196 : TIok Try.prog 196 ti196 := ⟨⟨_, Try.underlying196, _, rfl, rfl⟩, by kernel_rfl, rfl, fun h => (by cases h), fun _ => ⟨by kernel_rfl, by kernel_rfl, by kernel_rfl⟩⟩
def ti216 : TI := ⟨4, [.pointer none, .pointer none, .pointer none, .string ⟨#[]⟩], .strct [(0, 17), (1, 17), (2, 17), (3, 9)], false⟩
theorem tiok216 : TIok Try.prog 216 ti216 := ⟨⟨_, Try.underlying216, _, rfl, rfl⟩, by kernel_rfl, rfl, fun h => (by cases h), fun h => (by cases h)⟩
def ti217 : TI := ⟨4, [.pointer none, .pointer none, .pointer none, .string ⟨#[]⟩], .strct [(0, 17), (1, 17), (2, 17), (3, 9)], false⟩
theorem tiok217 : TIok Try.prog 217 ti217 := ⟨⟨_, Try.underlying217, _, rfl, rfl⟩, by kernel_rfl, rfl, fun h => (by cases h), fun h => (by cases h)⟩
def ti226 : TI := ⟨11, [.int .u64 0, .int .u64 0, .int .u32 0, .int .u8 0, .int .u8 0, .int .u8 0, .int .u8 0, .nilFunc, .pointer none, .int .i32 0, .int .i32 0], .strct [(0, 12), (1, 12), (2, 213), (3, 221), (4, 5), (5, 5), (6, 222), (7, 223), (8, 190), (9, 224), (10, 225)], false⟩
theorem tiok226 : TIok Try.prog 226 ti226 := ⟨⟨_, Try.underlying226, _, rfl, rfl⟩, by kernel_rfl, rfl, fun h => (by cases h), fun h => (by cases h)⟩
def ti227 : TI := ⟨11, [.int .u64 0, .int .u64 0, .int .u32 0, .int .u8 0, .int .u8 0, .int .u8 0, .int .u8 0, .nilFunc, .pointer none, .int .i32 0, .int .i32 0], .strct [(0, 12), (1, 12), (2, 213), (3, 221), (4, 5), (5, 5), (6, 222), (7, 223), (8, 190), (9, 224), (10, 225)], false⟩
theorem tiok227 : TIok Try.prog 227 ti227 := ⟨⟨_, Try.underlying227, _, rfl, rfl⟩, by kernel_rfl, rfl, fun h => (by cases h), fun h => (by cases h)⟩
def ti1 : TI := ⟨1, [.nilFunc], .other, false⟩
theorem tiok1 : TIok Try.prog 1 ti1 := ⟨⟨_, Try.underlying1, fun _ h => (by cases h), fun _ _ h => (by cases h)⟩, by kernel_rfl, rfl, fun _ => ⟨rfl, rfl⟩, fun h => (by cases h)⟩
def ti12 : TI := ⟨1, [.int .u64 0], .int .u64, false⟩
theorem tiok12 : TIok Try.prog 12 ti12 := ⟨⟨_, Try.underlying12, rfl⟩, by kernel_rfl, rfl, fun _ => ⟨rfl, rfl⟩, fun h => (by cases h)⟩
def ti15 : TI := ⟨1, [.pointer none], .other, false⟩
theorem tiok15 : TIok Try.prog 15 ti15 := ⟨⟨_, Try.underlying15, fun _ h => (by cases h), fun _ _ h => (by cases h)⟩, by kernel_rfl, rfl, fun _ => ⟨rfl, rfl⟩, fun h => (by cases h)⟩
def ti16 : TI := ⟨1, [.pointer none], .other, false⟩
theorem tiok16 : TIok Try.prog 16 ti16 := ⟨⟨_, Try.underlying16, fun _ h => (by cases h), fun _ _ h => (by cases h)⟩, by kernel_rfl, rfl, fun _ => ⟨rfl, rfl⟩, fun h => (by cases h)⟩
def ti17 : TI := ⟨1, [.pointer none], .other, false⟩
theorem tiok17 : TIok Try.prog 17 ti17 := ⟨⟨_, Try.underlying17, fun _ h => (by cases h), fun _ _ h => (by cases h)⟩, by kernel_rfl, rfl, fun _ => ⟨rfl, rfl⟩, fun h => (by cases h)⟩
def ti20 : TI := ⟨1, [.nilIface], .other, false⟩
theorem tiok20 : TIok Try.prog 20 ti20 := ⟨⟨_, Try.underlying20, fun _ h => (by cases h), fun _ _ h => (by cases h)⟩, by kernel_rfl, rfl, fun _ => ⟨rfl, rfl⟩, fun h => (by cases h)⟩
def ti21 : TI := ⟨1, [.int .i32 0], .int .i32, false⟩
theorem tiok21 : TIok Try.prog 21 ti21 := ⟨⟨_, Try.underlying21, rfl⟩, by kernel_rfl, rfl, fun _ => ⟨rfl, rfl⟩, fun h => (by cases h)⟩
def ti24 : TI := ⟨1, [.nilFunc], .other, false⟩
theorem tiok24 : TIok Try.prog 24 ti24 := ⟨⟨_, Try.underlying24, fun _ h => (by cases h), fun _ _ h => (by cases h)⟩, by kernel_rfl, rfl, fun _ => ⟨rfl, rfl⟩, fun h => (by cases h)⟩
def ti25 : TI := ⟨1, [.nilFunc], .other, false⟩
theorem tiok25 : TIok Try.prog 25 ti25 := ⟨⟨_, Try.underlying25, fun _ h => (by cases h), fun _ _ h => (by cases h)⟩, by kernel_rfl, rfl, fun _ => ⟨rfl, rfl⟩, fun h => (by cases h)⟩
def ti26 : TI := ⟨1, [.nilFunc], .other, false⟩
theorem tiok26 : TIok Try.prog 26 ti26 := ⟨⟨_, Try.underlying26, fun _ h => (by cases h), fun _ _ h => (by cases h)⟩, by kernel_rfl, rfl, fun _ => ⟨rfl, rfl⟩, fun h => (by cases h)⟩
def ti29 : TI := ⟨1, [.nilFunc], .other, false⟩
theorem tiok29 : TIok Try.prog 29 ti29 := ⟨⟨_, Try.underlying29, fun _ h => (by cases h), fun _ _ h => (by cases h)⟩, by kernel_rfl, rfl, fun _ => ⟨rfl, rfl⟩, fun h => (by cases h)⟩
def ti32 : TI := ⟨1, [.nilFunc], .other, false⟩
theorem tiok32 : TIok Try.prog 32 ti32 := ⟨⟨_, Try.underlying32, fun _ h => (by cases h), fun _ _ h => (by cases h)⟩, by kernel_rfl, rfl, fun _ => ⟨rfl, rfl⟩, fun h => (by cases h)⟩
def ti39 : TI := ⟨1, [.nilFunc], .other, false⟩
theorem tiok39 : TIok Try.prog 39 ti39 := ⟨⟨_, Try.underlying39, fun _ h => (by cases h), fun _ _ h => (by cases h)⟩, by kernel_rfl, rfl, fun _ => ⟨rfl, rfl⟩, fun h => (by cases h)⟩
def ti41 : TI := ⟨1, [.nilFunc], .other, false⟩
theorem tiok41 : TIok Try.prog 41 ti41 := ⟨⟨_, Try.underlying41, fun _ h => (by cases h), fun _ _ h => (by cases h)⟩, by kernel_rfl, rfl, fun _ => ⟨rfl, rfl⟩, fun h => (by cases h)⟩
def ti42 : TI := ⟨1, [.nilFunc], .other, false⟩
theorem tiok42 : TIok Try.prog 42 ti42 := ⟨⟨_, Try.underlying42, fun _ h => (by cases h), fun _ _ h => (by cases h)⟩, by kernel_rfl, rfl, fun _ => ⟨rfl, rfl⟩, fun h => (by cases h)⟩
def ti43 : TI := ⟨1, [.nilFunc], .other, false⟩
theorem tiok43 : TIok Try.prog 43 ti43 := ⟨⟨_, Try.underlying43, fun _ h => (by cases h), fun _ _ h => (by cases h)⟩, by kernel_rfl, rfl, fun _ => ⟨rfl, rfl⟩, fun h => (by cases h)⟩
def ti44 : TI := ⟨1, [.nilFunc], .other, false⟩
theorem tiok44 : TIok Try.prog 44 ti44 := ⟨⟨_, Try.underlying44, fun _ h => (by cases h), fun _ _ h => (by cases h)⟩, by kernel_rfl, rfl, fun _ => ⟨rfl, rfl⟩, fun h => (by cases h)⟩
def ti48 : TI := ⟨1, [.nilFunc], .other, false⟩
theorem tiok48 : TIok Try.prog 48 ti48 := ⟨⟨_, Try.underlying48, fun _ h => (by cases h), fun _ _ h => (by cases h)⟩, by kernel_rfl, rfl, fun _ => ⟨rfl, rfl⟩, fun h => (by cases h)⟩
def ti50 : TI := ⟨1, [.nilFunc], .other, false⟩
theorem tiok50 : TIok Try.prog 50 ti50 := ⟨⟨_, Try.underlying50, fun _ h => (by cases h), fun _ _ h => (by cases h)⟩, by kernel_rfl, rfl, fun _ => ⟨rfl, rfl⟩, fun h => (by cases h)⟩
def ti52 : TI := ⟨1, [.nilFunc], .other, false⟩
theorem tiok52 : TIok Try.prog 52 ti52 := ⟨⟨_, Try.underlying52, fun _ h => (by cases h), fun _ _ h => (by cases h)⟩, by kernel_rfl, rfl, fun _ => ⟨rfl, rfl⟩, fun h => (by cases h)⟩
def ti53 : TI := ⟨1, [.nilFunc], .other, false⟩
theorem tiok53 : TIok Try.prog 53 ti53 := ⟨⟨_, Try.underlying53, fun _ h => (by cases h), fun _ _ h => (by cases h)⟩, by kernel_rfl, rfl, fun _ => ⟨rfl, rfl⟩, fun h => (by cases h)⟩
def ti54 : TI := ⟨1, [.nilFunc], .other, false⟩
theorem tiok54 : TIok Try.prog 54 ti54 := ⟨⟨_, Try.underlying54, fun _ h => (by cases h), fun _ _ h => (by cases h)⟩, by kernel_rfl, rfl, fun _ => ⟨rfl, rfl⟩, fun h => (by cases h)⟩
def ti56 : TI := ⟨1, [.nilFunc], .other, false⟩
theorem tiok56 : TIok Try.prog 56 ti56 := ⟨⟨_, Try.underlying56, fun _ h => (by cases h), fun _ _ h => (by cases h)⟩, by kernel_rfl, rfl, fun _ => ⟨rfl, rfl⟩, fun h => (by cases h)⟩
def ti57 : TI := ⟨1, [.nilFunc], .other, false⟩
theorem tiok57 : TIok Try.prog 57 ti57 := ⟨⟨_, Try.underlying57, fun _ h => (by cases h), fun _ _ h => (by cases h)⟩, by kernel_rfl, rfl, fun _ => ⟨rfl, rfl⟩, fun h => (by cases h)⟩
def ti58 : TI := ⟨1, [.nilFunc], .other, false⟩
theorem tiok58 : TIok Try.prog 58 ti58 := ⟨⟨_, Try.underlying58, fun _ h => (by cases h), fun _ _ h => (by cases h)⟩, by kernel_rfl, rfl, fun _ => ⟨rfl, rfl⟩, fun h => (by cases h)⟩
def ti59 : TI := ⟨1, [.nilFunc], .other, false⟩
theorem tiok59 : TIok Try.prog 59 ti59 := ⟨⟨_, Try.underlying59, fun _ h => (by cases h), fun _ _ h => (by cases h)⟩, by kernel_rfl, rfl, fun _ => ⟨rfl, rfl⟩, fun h => (by cases h)⟩
def ti60 : TI := ⟨1, [.nilFunc], .other, false⟩
theorem tiok60 : TIok Try.prog 60 ti60 := ⟨⟨_, Try.underlying60, fun _ h => (by cases h), fun _ _ h => (by cases h)⟩, by kernel_rfl, rfl, fun _ => ⟨rfl, rfl⟩, fun h => (by cases h)⟩
def ti63 : TI := ⟨1, [.nilFunc], .other, false⟩
theorem tiok63 : TIok Try.prog 63 ti63 := ⟨⟨_, Try.underlying63, fun _ h => (by cases h), fun _ _ h => (by cases h)⟩, by kernel_rfl, rfl, fun _ => ⟨rfl, rfl⟩, fun h => (by cases h)⟩
def ti66 : TI := ⟨1, [.nilFunc], .other, false⟩
theorem tiok66 : TIok Try.prog 66 ti66 := ⟨⟨_, Try.underlying66, fun _ h => (by cases h), fun _ _ h => (by cases h)⟩, by kernel_rfl, rfl, fun _ => ⟨rfl, rfl⟩, fun h => (by cases h)⟩
def ti67 : TI := ⟨1, [.nilFunc], .other, false⟩
theorem tiok67 : TIok Try.prog 67 ti67 := ⟨⟨_, Try.underlying67, fun _ h => (by cases h), fun _ _ h => (by cases h)⟩, by kernel_rfl, rfl, fun _ => ⟨rfl, rfl⟩, fun h => (by cases h)⟩
def ti68 : TI := ⟨1, [.int .u64 0], .int .u64, false⟩
theorem tiok68 : TIok Try.prog 68 ti68 := ⟨⟨_, Try.underlying68, rfl⟩, by kernel_rfl, rfl, fun _ => ⟨rfl, rfl⟩, fun h => (by cases h)⟩
def ti70 : TI := ⟨1, [.nilFunc], .other, false⟩
theorem tiok70 : TIok Try.prog 70 ti70 := ⟨⟨_, Try.underlying70, fun _ h => (by cases h), fun _ _ h => (by cases h)⟩, by kernel_rfl, rfl, fun _ => ⟨rfl, rfl⟩, fun h => (by cases h)⟩
def ti72 : TI := ⟨1, [.nilFunc], .other, false⟩
theorem tiok72 : TIok Try.prog 72 ti72 := ⟨⟨_, Try.underlying72, fun _ h => (by cases h), fun _ _ h => (by cases h)⟩, by kernel_rfl, rfl, fun _ => ⟨rfl, rfl⟩, fun h => (by cases h)⟩
def ti74 : TI := ⟨1, [.nilFunc], .other, false⟩
theorem tiok74 : TIok Try.prog 74 ti74 := ⟨⟨_, Try.underlying74, fun _ h => (by cases h), fun _ _ h => (by cases h)⟩, by kernel_rfl, rfl, fun _ => ⟨rfl, rfl⟩, fun h => (by cases h)⟩
def ti76 : TI := ⟨1, [.nilFunc], .other, false⟩
theorem tiok76 : TIok Try.prog 76 ti76 := ⟨⟨_, Try.underlying76, fun _ h => (by cases h), fun _ _ h => (by cases h)⟩, by kernel_rfl, rfl, fun _ => ⟨rfl, rfl⟩, fun h => (by cases h)⟩
def ti79 : TI := ⟨1, [.nilFunc], .other, false⟩
theorem tiok79 : TIok Try.prog 79 ti79 := ⟨⟨_, Try.underlying79, fun _ h => (by cases h), fun _ _ h => (by cases h)⟩, by kernel_rfl, rfl, fun _ => ⟨rfl, rfl⟩, fun h => (by cases h)⟩
def ti81 : TI := ⟨1, [.nilFunc], .other, false⟩
theorem tiok81 : TIok Try.prog 81 ti81 := ⟨⟨_, Try.underlying81, fun _ h => (by cases h), fun _ _ h => (by cases h)⟩, by kernel_rfl, rfl, fun _ => ⟨rfl, rfl⟩, fun h => (by cases h)⟩
def ti82 : TI := ⟨1, [.nilFunc], .other, false⟩
theorem tiok82 : TIok Try.prog 82 ti82 := ⟨⟨_, Try.underlying82, fun _ h => (by cases h), fun _ _ h => (by cases h)⟩, by kernel_rfl, rfl, fun _ => ⟨rfl, rfl⟩, fun h => (by cases h)⟩
def ti83 : TI := ⟨1, [.nilFunc], .other, false⟩
theorem tiok83 : TIok Try.prog 83 ti83 := ⟨⟨_, Try.underlying83, fun _ h => (by cases h), fun _ _ h => (by cases h)⟩, by kernel_rfl, rfl, fun _ => ⟨rfl, rfl⟩, fun h => (by cases h)⟩
def ti84 : TI := ⟨1, [.nilFunc], .other, false⟩
theorem tiok84 : TIok Try.prog 84 ti84 := ⟨⟨_, Try.underlying84, fun _ h => (by cases h), fun _ _ h => (by cases h)⟩, by kernel_rfl, rfl, fun _ => ⟨rfl, rfl⟩, fun h => (by cases h)⟩
def ti88 : TI := ⟨1, [.nilFunc], .other, false⟩
theorem tiok88 : TIok Try.prog 88 ti88 := ⟨⟨_, Try.underlying88, fun _ h => (by cases h), fun _ _ h => (by cases h)⟩, by kernel_rfl, rfl, fun _ => ⟨rfl, rfl⟩, fun h => (by cases h)⟩
def ti90 : TI := ⟨1, [.nilFunc], .other, false⟩
theorem tiok90 : TIok Try.prog 90 ti90 := ⟨⟨_, Try.underlying90, fun _ h => (by cases h), fun _ _ h => (by cases h)⟩, by kernel_rfl, rfl, fun _ => ⟨rfl, rfl⟩, fun h => (by cases h)⟩
def ti91 : TI := ⟨1, [.nilFunc], .other, false⟩
theorem tiok91 : TIok Try.prog 91 ti91 := ⟨⟨_, Try.underlying91, fun _ h => (by cases h), fun _ _ h => (by cases h)⟩, by kernel_rfl, rfl, fun _ => ⟨rfl, rfl⟩, fun h => (by cases h)⟩
def ti92 : TI := ⟨1, [.nilFunc], .other, false⟩
theorem tiok92 : TIok Try.prog 92 ti92 := ⟨⟨_, Try.underlying92, fun _ h => (by cases h), fun _ _ h => (by cases h)⟩, by kernel_rfl, rfl, fun _ => ⟨rfl, rfl⟩, fun h => (by cases h)⟩
def ti93 : TI := ⟨1, [.nilFunc], .other, false⟩
theorem tiok93 : TIok Try.prog 93 ti93 := ⟨⟨_, Try.underlying93, fun _ h => (by cases h), fun _ _ h => (by cases h)⟩, by kernel_rfl, rfl, fun _ => ⟨rfl, rfl⟩, fun h => (by cases h)⟩
def ti94 : TI := ⟨1, [.nilFunc], .other, false⟩
theorem tiok94 : TIok Try.prog 94 ti94 := ⟨⟨_, Try.underlying94, fun _ h => (by cases h), fun _ _ h => (by cases h)⟩, by kernel_rfl, rfl, fun _ => ⟨rfl, rfl⟩, fun h => (by cases h)⟩
def ti95 : TI := ⟨1, [.nilFunc], .other, false⟩
theorem tiok95 : TIok Try.prog 95 ti95 := ⟨⟨_, Try.underlying95, fun _ h => (by cases h), fun _ _ h => (by cases h)⟩, by kernel_rfl, rfl, fun _ => ⟨rfl, rfl⟩, fun h => (by cases h)⟩
def ti96 : TI := ⟨1, [.nilFunc], .other, false⟩
theorem tiok96 : TIok Try.prog 96 ti96 := ⟨⟨_, Try.underlying96, fun _ h => (by cases h), fun _ _ h => (by cases h)⟩, by kernel_rfl, rfl, fun _ => ⟨rfl, rfl⟩, fun h => (by cases h)⟩
def ti99 : TI := ⟨1, [.nilFunc], .other, false⟩
theorem tiok99 : TIok Try.prog 99 ti99 := ⟨⟨_, Try.underlying99, fun _ h => (by cases h), fun _ _ h => (by cases h)⟩, by kernel_rfl, rfl, fun _ => ⟨rfl, rfl⟩, fun h => (by cases h)⟩
def ti101 : TI := ⟨1, [.nilFunc], .other, false⟩
theorem tiok101 : TIok Try.prog 101 ti101 := ⟨⟨_, Try.underlying101, fun _ h => (by cases h), fun _ _ h => (by cases h)⟩, by kernel_rfl, rfl, fun _ => ⟨rfl, rfl⟩, fun h => (by cases h)⟩
def ti102 : TI := ⟨1, [.nilFunc], .other, false⟩
theorem tiok102 : TIok Try.prog 102 ti102 := ⟨⟨_, Try.underlying102, fun _ h => (by cases h), fun _ _ h => (by cases h)⟩, by kernel_rfl, rfl, fun _ => ⟨rfl, rfl⟩, fun h => (by cases h)⟩
def ti103 : TI := ⟨1, [.nilFunc], .other, false⟩
theorem tiok103 : TIok Try.prog 103 ti103 := ⟨⟨_, Try.underlying103, fun _ h => (by cases h), fun _ _ h => (by cases h)⟩, by kernel_rfl, rfl, fun _ => ⟨rfl, rfl⟩, fun h => (by cases h)⟩
def ti104 : TI := ⟨1, [.nilFunc], .other, false⟩
theorem tiok104 : TIok Try.prog 104 ti104 := ⟨⟨_, Try.underlying104, fun _ h => (by cases h), fun _ _ h => (by cases h)⟩, by kernel_rfl, rfl, fun _ => ⟨rfl, rfl⟩, fun h => (by cases h)⟩
def ti105 : TI := ⟨1, [.nilFunc], .other, false⟩
theorem tiok105 : TIok Try.prog 105 ti105 := ⟨⟨_, Try.underlying105, fun _ h => (by cases h), fun _ _ h => (by cases h)⟩, by kernel_rfl, rfl, fun _ => ⟨rfl, rfl⟩, fun h => (by cases h)⟩
def ti106 : TI := ⟨1, [.nilFunc], .other, false⟩
theorem tiok106 : TIok Try.prog 106 ti106 := ⟨⟨_, Try.underlying106, fun _ h => (by cases h), fun _ _ h => (by cases h)⟩, by kernel_rfl, rfl, fun _ => ⟨rfl, rfl⟩, fun h => (by cases h)⟩
def ti107 : TI := ⟨1, [.nilFunc], .other, false⟩
theorem tiok107 : TIok Try.prog 107 ti107 := ⟨⟨_, Try.underlying107, fun _ h => (by cases h), fun _ _ h => (by cases h)⟩, by kernel_rfl, rfl, fun _ => ⟨rfl, rfl⟩, fun h => (by cases h)⟩
def ti108 : TI := ⟨1, [.nilFunc], .other, false⟩
theorem tiok108 : TIok Try.prog 108 ti108 := ⟨⟨_, Try.underlying108, fun _ h => (by cases h), fun _ _ h => (by cases h)⟩, by kernel_rfl, rfl, fun _ => ⟨rfl, rfl⟩, fun h => (by cases h)⟩
def ti109 : TI := ⟨1, [.nilFunc], .other, false⟩
theorem tiok109 : TIok Try.prog 109 ti109 := ⟨⟨_, Try.underlying109, fun _ h => (by cases h), fun _ _ h => (by cases h)⟩, by kernel_rfl, rfl, fun _ => ⟨rfl, rfl⟩, fun h => (by cases h)⟩
def ti110 : TI := ⟨1, [.nilFunc], .other, false⟩
theorem tiok110 : TIok Try.prog 110 ti110 := ⟨⟨_, Try.underlying110, fun _ h => (by cases h), fun _ _ h => (by cases h)⟩, by kernel_rfl, rfl, fun _ => ⟨rfl, rfl⟩, fun h => (by cases h)⟩
def ti112 : TI := ⟨1, [.nilFunc], .other, false⟩
theorem tiok112 : TIok Try.prog 112 ti112 := ⟨⟨_, Try.underlying112, fun _ h => (by cases h), fun _ _ h => (by cases h)⟩, by kernel_rfl, rfl, fun _ => ⟨rfl, rfl⟩, fun h => (by cases h)⟩
def ti113 : TI := ⟨1, [.pointer none], .other, false⟩
theorem tiok113 : TIok Try.prog 113 ti113 := ⟨⟨_, Try.underlying113, fun _ h => (by cases h), fun _ _ h => (by cases h)⟩, by kernel_rfl, rfl, fun _ => ⟨rfl, rfl⟩, fun h => (by cases h)⟩
def ti114 : TI := ⟨1, [.nilFunc], .other, false⟩
theorem tiok114 : TIok Try.prog 114 ti114 := ⟨⟨_, Try.underlying114, fun _ h => (by cases h), fun _ _ h => (by cases h)⟩, by kernel_rfl, rfl, fun _ => ⟨rfl, rfl⟩, fun h => (by cases h)⟩
def ti115 : TI := ⟨1, [.nilFunc], .other, false⟩
theorem tiok115 : TIok Try.prog 115 ti115 := ⟨⟨_, Try.underlying115, fun _ h => (by cases h), fun _ _ h => (by cases h)⟩, by kernel_rfl, rfl, fun _ => ⟨rfl, rfl⟩, fun h => (by cases h)⟩
def ti116 : TI := ⟨1, [.pointer none], .other, false⟩
theorem tiok116 : TIok Try.prog 116 ti116 := ⟨⟨_, Try.underlying116, fun _ h => (by cases h), fun _ _ h => (by cases h)⟩, by kernel_rfl, rfl, fun _ => ⟨rfl, rfl⟩, fun h => (by cases h)⟩
def ti117 : TI := ⟨1, [.nilFunc], .other, false⟩
theorem tiok117 : TIok Try.prog 117 ti117 := ⟨⟨_, Try.underlying117, fun _ h => (by cases h), fun _ _ h => (by cases h)⟩, by kernel_rfl, rfl, fun _ => ⟨rfl, rfl⟩, fun h => (by cases h)⟩
def ti118 : TI := ⟨1, [.nilFunc], .other, false⟩
theorem tiok118 : TIok Try.prog 118 ti118 := ⟨⟨_, Try.underlying118, fun _ h => (by cases h), fun _ _ h => (by cases h)⟩, by kernel_rfl, rfl, fun _ => ⟨rfl, rfl⟩, fun h => (by cases h)⟩
def ti119 : TI := ⟨1, [.nilFunc], .other, false⟩
theorem tiok119 : TIok Try.prog 119 ti119 := ⟨⟨_, Try.underlying119, fun _ h => (by cases h), fun _ _ h => (by cases h)⟩, by kernel_rfl, rfl, fun _ => ⟨rfl, rfl⟩, fun h => (by cases h)⟩
def ti121 : TI := ⟨1, [.nilFunc], .other, false⟩
theorem tiok121 : TIok Try.prog 121 ti121 := ⟨⟨_, Try.underlying121, fun _ h => (by cases h), fun _ _ h => (by cases h)⟩, by kernel_rfl, rfl, fun _ => ⟨rfl, rfl⟩, fun h => (by cases h)⟩
def ti122 : TI := ⟨1, [.nilFunc], .other, false⟩
theorem tiok122 : TIok Try.prog 122 ti122 := ⟨⟨_, Try.underlying122, fun _ h => (by cases h), fun _ _ h => (by cases h)⟩, by kernel_rfl, rfl, fun _ => ⟨rfl, rfl⟩, fun h => (by cases h)⟩
def ti123 : TI := ⟨1, [.nilFunc], .other, false⟩
theorem tiok123 : TIok Try.prog 123 ti123 := ⟨⟨_, Try.underlying123, fun _ h => (by cases h), fun _ _ h => (by cases h)⟩, by kernel_rfl, rfl, fun _ => ⟨rfl, rfl⟩, fun h => (by cases h)⟩
def ti124 : TI := ⟨1, [.nilFunc], .other, false⟩
theorem tiok124 : TIok Try.prog 124 ti124 := ⟨⟨_, Try.underlying124, fun _ h => (by cases h), fun _ _ h => (by cases h)⟩, by kernel_rfl, rfl, fun _ => ⟨rfl, rfl⟩, fun h => (by cases h)⟩
def ti125 : TI := ⟨1, [.nilFunc], .other, false⟩
theorem tiok125 : TIok Try.prog 125 ti125 := ⟨⟨_, Try.underlying125, fun _ h => (by cases h), fun _ _ h => (by cases h)⟩, by kernel_rfl, rfl, fun _ => ⟨rfl, rfl⟩, fun h => (by cases h)⟩
def ti126 : TI := ⟨1, [.nilFunc], .other, false⟩
theorem tiok126 : TIok Try.prog 126 ti126 := ⟨⟨_, Try.underlying126, fun _ h => (by cases h), fun _ _ h => (by cases h)⟩, by kernel_rfl, rfl, fun _ => ⟨rfl, rfl⟩, fun h => (by cases h)⟩
def ti127 : TI := ⟨1, [.nilFunc], .other, false⟩
theorem tiok127 : TIok Try.prog 127 ti127 := ⟨⟨_, Try.underlying127, fun _ h => (by cases h), fun _ _ h => (by cases h)⟩, by kernel_rfl, rfl, fun _ => ⟨rfl, rfl⟩, fun h => (by cases h)⟩
def ti131 : TI := ⟨1, [.nilFunc], .other, false⟩
theorem tiok131 : TIok Try.prog 131 ti131 := ⟨⟨_, Try.underlying131, fun _ h => (by cases h), fun _ _ h => (by cases h)⟩, by kernel_rfl, rfl, fun _ => ⟨rfl, rfl⟩, fun h => (by cases h)⟩
def ti134 : TI := ⟨1, [.nilFunc], .other, false⟩
theorem tiok134 : TIok Try.prog 134 ti134 := ⟨⟨_, Try.underlying134, fun _ h => (by cases h), fun _ _ h => (by cases h)⟩, by kernel_rfl, rfl, fun _ => ⟨rfl, rfl⟩, fun h => (by cases h)⟩
def ti137 : TI := ⟨1, [.pointer none], .other, false⟩
theorem tiok137 : TIok Try.prog 137 ti137 := ⟨⟨_, Try.underlying137, fun _ h => (by cases h), fun _ _ h => (by cases h)⟩, by kernel_rfl, rfl, fun _ => ⟨rfl, rfl⟩, fun h => (by cases h)⟩
def ti140 : TI := ⟨1, [.nilIface], .other, false⟩
theorem tiok140 : TIok Try.prog 140 ti140 := ⟨⟨_, Try.underlying140, fun _ h => (by cases h), fun _ _ h => (by cases h)⟩, by kernel_rfl, rfl, fun _ => ⟨rfl, rfl⟩, fun h => (by cases h)⟩
def ti141 : TI := ⟨1, [.nilIface], .other, false⟩
theorem tiok141 : TIok Try.prog 141 ti141 := ⟨⟨_, Try.underlying141, fun _ h => (by cases h), fun _ _ h => (by cases h)⟩, by kernel_rfl, rfl, fun _ => ⟨rfl, rfl⟩, fun h => (by cases h)⟩
def ti142 : TI := ⟨1, [.nilFunc], .other, false⟩
theorem tiok142 : TIok Try.prog 142 ti142 := ⟨⟨_, Try.underlying142, fun _ h => (by cases h), fun _ _ h => (by cases h)⟩, by kernel_rfl, rfl, fun _ => ⟨rfl, rfl⟩, fun h => (by cases h)⟩
def ti143 : TI := ⟨1, [.nilFunc], .other, false⟩
theorem tiok143 : TIok Try.prog 143 ti143 := ⟨⟨_, Try.underlying143, fun _ h => (by cases h), fun _ _ h => (by cases h)⟩, by kernel_rfl, rfl, fun _ => ⟨rfl, rfl⟩, fun h => (by cases h)⟩
def ti145 : TI := ⟨1, [.nilFunc], .other, false⟩
theorem tiok145 : TIok Try.prog 145 ti145 := ⟨⟨_, Try.underlying145, fun _ h => (by cases h), fun _ _ h => (by cases h)⟩, by kernel_rfl, rfl, fun _ => ⟨rfl, rfl⟩, fun h => (by cases h)⟩
def ti146 : TI := ⟨1, [.nilFunc], .other, false⟩
theorem tiok146 : TIok Try.prog 146 ti146 := ⟨⟨_, Try.underlying146, fun _ h => (by cases h), fun _ _ h => (by cases h)⟩, by kernel_rfl, rfl, fun _ => ⟨rfl, rfl⟩, fun h => (by cases h)⟩
def ti147 : TI := ⟨1, [.nilFunc], .other, false⟩
theorem tiok147 : TIok Try.prog 147 ti147 := ⟨⟨_, Try.underlying147, fun _ h => (by cases h), fun _ _ h => (by cases h)⟩, by kernel_rfl, rfl, fun _ => ⟨rfl, rfl⟩, fun h => (by cases h)⟩
def ti149 : TI := ⟨1, [.nilFunc], .other, false⟩
theorem tiok149 : TIok Try.prog 149 ti149 := ⟨⟨_, Try.underlying149, fun _ h => (by cases h), fun _ _ h => (by cases h)⟩, by kernel_rfl, rfl, fun _ => ⟨rfl, rfl⟩, fun h => (by cases h)⟩
def ti150 : TI := ⟨1, [.nilFunc], .other, false⟩
theorem tiok150 : TIok Try.prog 150 ti150 := ⟨⟨_, Try.underlying150, fun _ h => (by cases h), fun _ _ h => (by cases h)⟩, by kernel_rfl, rfl, fun _ => ⟨rfl, rfl⟩, fun h => (by cases h)⟩
def ti151 : TI := ⟨1, [.nilFunc], .other, false⟩
theorem tiok151 : TIok Try.prog 151 ti151 := ⟨⟨_, Try.underlying151, fun _ h => (by cases h), fun _ _ h => (by cases h)⟩, by kernel_rfl, rfl, fun _ => ⟨rfl, rfl⟩, fun h => (by cases h)⟩
def ti152 : TI := ⟨1, [.nilFunc], .other, false⟩
theorem tiok152 : TIok Try.prog 152 ti152 := ⟨⟨_, Try.underlying152, fun _ h => (by cases h), fun _ _ h => (by cases h)⟩, by kernel_rfl, rfl, fun _ => ⟨rfl, rfl⟩, fun h => (by cases h)⟩
def ti154 : TI := ⟨1, [.nilFunc], .other, false⟩
theorem tiok154 : TIok Try.prog 154 ti154 := ⟨⟨_, Try.underlying154, fun _ h => (by cases h), fun _ _ h => (by cases h)⟩, by kernel_rfl, rfl, fun _ => ⟨rfl, rfl⟩, fun h => (by cases h)⟩
def ti155 : TI := ⟨1, [.nilFunc], .other, false⟩
theorem tiok155 : TIok Try.prog 155 ti155 := ⟨⟨_, Try.underlying155, fun _ h => (by cases h), fun _ _ h => (by cases h)⟩, by kernel_rfl, rfl, fun _ => ⟨rfl, rfl⟩, fun h => (by cases h)⟩
def ti157 : TI := ⟨1, [.nilFunc], .other, false⟩
theorem tiok157 : TIok Try.prog 157 ti157 := ⟨⟨_, Try.underlying157, fun _ h => (by cases h), fun _ _ h => (by cases h)⟩, by kernel_rfl, rfl, fun _ => ⟨rfl, rfl⟩, fun h => (by cases h)⟩
def ti158 : TI := ⟨1, [.nilFunc], .other, false⟩
theorem tiok158 : TIok Try.prog 158 ti158 := ⟨⟨_, Try.underlying158, fun _ h => (by cases h), fun _ _ h => (by cases h)⟩, by kernel_rfl, rfl, fun _ => ⟨rfl, rfl⟩, fun h => (by cases h)⟩
def ti159 : TI := ⟨1, [.nilFunc], .other, false⟩
theorem tiok159 : TIok Try.prog 159 ti159 := ⟨⟨_, Try.underlying159, fun _ h => (by cases h), fun _ _ h => (by cases h)⟩, by kernel_rfl, rfl, fun _ => ⟨rfl, rfl⟩, fun h => (by cases h)⟩
def ti160 : TI := ⟨1, [.nilFunc], .other, false⟩
theorem tiok160 : TIok Try.prog 160 ti160 := ⟨⟨_, Try.underlying160, fun _ h => (by cases h), fun _ _ h => (by cases h)⟩, by kernel_rfl, rfl, fun _ => ⟨rfl, rfl⟩, fun h => (by cases h)⟩
def ti161 : TI := ⟨1, [.nilFunc], .other, false⟩
theorem tiok161 : TIok Try.prog 161 ti161 := ⟨⟨_, Try.underlying161, fun _ h => (by cases h), fun _ _ h => (by cases h)⟩, by kernel_rfl, rfl, fun _ => ⟨rfl, rfl⟩, fun h => (by cases h)⟩
def ti162 : TI := ⟨1, [.nilFunc], .other, false⟩
theorem tiok162 : TIok Try.prog 162 ti162 := ⟨⟨_, Try.underlying162, fun _ h => (by cases h), fun _ _ h => (by cases h)⟩, by kernel_rfl, rfl, fun _ => ⟨rfl, rfl⟩, fun h => (by cases h)⟩
def ti163 : TI := ⟨1, [.nilFunc], .other, false⟩
theorem tiok163 : TIok Try.prog 163 ti163 := ⟨⟨_, Try.underlying163, fun _ h => (by cases h), fun _ _ h => (by cases h)⟩, by kernel_rfl, rfl, fun _ => ⟨rfl, rfl⟩, fun h => (by cases h)⟩
def ti164 : TI := ⟨1, [.nilFunc], .other, false⟩
theorem tiok164 : TIok Try.prog 164 ti164 := ⟨⟨_, Try.underlying164, fun _ h => (by cases h), fun _ _ h => (by cases h)⟩, by kernel_rfl, rfl, fun _ => ⟨rfl, rfl⟩, fun h => (by cases h)⟩
def ti165 : TI := ⟨1, [.int .u64 0], .int .u64, false⟩
theorem tiok165 : TIok Try.prog 165 ti165 := ⟨⟨_, Try.underlying165, rfl⟩, by kernel_rfl, rfl, fun _ => ⟨rfl, rfl⟩, fun h => (by cases h)⟩
def ti166 : TI := ⟨1, [.nilFunc], .other, false⟩
theorem tiok166 : TIok Try.prog 166 ti166 := ⟨⟨_, Try.underlying166, fun _ h => (by cases h), fun _ _ h => (by cases h)⟩, by kernel_rfl, rfl, fun _ => ⟨rfl, rfl⟩, fun h => (by cases h)⟩
def ti168 : TI := ⟨1, [.nilFunc], .other, false⟩
theorem tiok168 : TIok Try.prog 168 ti168 := ⟨⟨_, Try.underlying168, fun _ h => (by cases h), fun _ _ h => (by cases h)⟩, by kernel_rfl, rfl, fun _ => ⟨rfl, rfl⟩, fun h => (by cases h)⟩
def ti169 : TI := ⟨1, [.nilFunc], .other, false⟩
theorem tiok169 : TIok Try.prog 169 ti169 := ⟨⟨_, Try.underlying169, fun _ h => (by cases h), fun _ _ h => (by cases h)⟩, by kernel_rfl, rfl, fun _ => ⟨rfl, rfl⟩, fun h => (by cases h)⟩
def ti170 : TI := ⟨1, [.nilFunc], .other, false⟩
theorem tiok170 : TIok Try.prog 170 ti170 := ⟨⟨_, Try.underlying170, fun _ h => (by cases h), fun _ _ h => (by cases h)⟩, by kernel_rfl, rfl, fun _ => ⟨rfl, rfl⟩, fun h => (by cases h)⟩
def ti171 : TI := ⟨1, [.nilFunc], .other, false⟩
theorem tiok171 : TIok Try.prog 171 ti171 := ⟨⟨_, Try.underlying171, fun _ h => (by cases h), fun _ _ h => (by cases h)⟩, by kernel_rfl, rfl, fun _ => ⟨rfl, rfl⟩, fun h => (by cases h)⟩
def ti172 : TI := ⟨1, [.nilFunc], .other, false⟩
theorem tiok172 : TIok Try.prog 172 ti172 := ⟨⟨_, Try.underlying172, fun _ h => (by cases h), fun _ _ h => (by cases h)⟩, by kernel_rfl, rfl, fun _ => ⟨rfl, rfl⟩, fun h => (by cases h)⟩
def ti173 : TI := ⟨1, [.nilFunc], .other, false⟩
theorem tiok173 : TIok Try.prog 173 ti173 := ⟨⟨_, Try.underlying173, fun _ h => (by cases h), fun _ _ h => (by cases h)⟩, by kernel_rfl, rfl, fun _ => ⟨rfl, rfl⟩, fun h => (by cases h)⟩
def ti174 : TI := ⟨1, [.map none], .other, false⟩
theorem tiok174 : TIok Try.prog 174 ti174 := ⟨⟨_, Try.underlying174, fun _ h => (by cases h), fun _ _ h => (by cases h)⟩, by kernel_rfl, rfl, fun _ => ⟨rfl, rfl⟩, fun h => (by cases h)⟩
def ti175 : TI := ⟨1, [.nilFunc], .other, false⟩
theorem tiok175 : TIok Try.prog 175 ti175 := ⟨⟨_, Try.underlying175, fun _ h => (by cases h), fun _ _ h => (by cases h)⟩, by kernel_rfl, rfl, fun _ => ⟨rfl, rfl⟩, fun h => (by cases h)⟩
def ti176 : TI := ⟨1, [.nilFunc], .other, false⟩
theorem tiok176 : TIok Try.prog 176 ti176 := ⟨⟨_, Try.underlying176, fun _ h => (by cases h), fun _ _ h => (by cases h)⟩, by kernel_rfl, rfl, fun _ => ⟨rfl, rfl⟩, fun h => (by cases h)⟩
def ti178 : TI := ⟨1, [.nilFunc], .other, false⟩
theorem tiok178 : TIok Try.prog 178 ti178 := ⟨⟨_, Try.underlying178, fun _ h => (by cases h), fun _ _ h => (by cases h)⟩, by kernel_rfl, rfl, fun _ => ⟨rfl, rfl⟩, fun h => (by cases h)⟩
def ti179 : TI := ⟨1, [.nilFunc], .other, false⟩
theorem tiok179 : TIok Try.prog 179 ti179 := ⟨⟨_, Try.underlying179, fun _ h => (by cases h), fun _ _ h => (by cases h)⟩, by kernel_rfl, rfl, fun _ => ⟨rfl, rfl⟩, fun h => (by cases h)⟩
def ti181 : TI := ⟨1, [.nilFunc], .other, false⟩
theorem tiok181 : TIok Try.prog 181 ti181 := ⟨⟨_, Try.underlying181, fun _ h => (by cases h), fun _ _ h => (by cases h)⟩, by kernel_rfl, rfl, fun _ => ⟨rfl, rfl⟩, fun h => (by cases h)⟩
def ti182 : TI := ⟨1, [.nilFunc], .other, false⟩
theorem tiok182 : TIok Try.prog 182 ti182 := ⟨⟨_, Try.underlying182, fun _ h => (by cases h), fun _ _ h => (by cases h)⟩, by kernel_rfl, rfl, fun _ => ⟨rfl, rfl⟩, fun h => (by cases h)⟩
def ti183 : TI := ⟨1, [.nilFunc], .other, false⟩
theorem tiok183 : TIok Try.prog 183 ti183 := ⟨⟨_, Try.underlying183, fun _ h => (by cases h), fun _ _ h => (by cases h)⟩, by kernel_rfl, rfl, fun _ => ⟨rfl, rfl⟩, fun h => (by cases h)⟩
def ti184 : TI := ⟨1, [.nilFunc], .other, false⟩
theorem tiok184 : TIok Try.prog 184 ti184 := ⟨⟨_, Try.underlying184, fun _ h => (by cases h), fun _ _ h => (by cases h)⟩, by kernel_rfl, rfl, fun _ => ⟨rfl, rfl⟩, fun h => (by cases h)⟩
def ti185 : TI := ⟨1, [.nilFunc], .other, false⟩
theorem tiok185 : TIok Try.prog 185 ti185 := ⟨⟨_, Try.underlying185, fun _ h => (by cases h), fun _ _ h => (by cases h)⟩, by kernel_rfl, rfl, fun _ => ⟨rfl, rfl⟩, fun h => (by cases h)⟩
def ti189 : TI := ⟨1, [.nilFunc], .other, false⟩
theorem tiok189 : TIok Try.prog 189 ti189 := ⟨⟨_, Try.underlying189, fun _ h => (by cases h), fun _ _ h => (by cases h)⟩, by kernel_rfl, rfl, fun _ => ⟨rfl, rfl⟩, fun h => (by cases h)⟩
def ti190 : TI := ⟨1, [.pointer none], .other, false⟩
theorem tiok190 : TIok Try.prog 190 ti190 := ⟨⟨_, Try.underlying190, fun _ h => (by cases h), fun _ _ h => (by cases h)⟩, by kernel_rfl, rfl, fun _ => ⟨rfl, rfl⟩, fun h => (by cases h)⟩
def ti191 : TI := ⟨1, [.nilFunc], .other, false⟩
theorem tiok191 : TIok Try.prog 191 ti191 := ⟨⟨_, Try.underlying191, fun _ h => (by cases h), fun _ _ h => (by cases h)⟩, by kernel_rfl, rfl, fun _ => ⟨rfl, rfl⟩, fun h => (by cases h)⟩
def ti192 : TI := ⟨1, [.nilFunc], .other, false⟩
theorem tiok192 : TIok Try.prog 192 ti192 := ⟨⟨_, Try.underlying192, fun _ h => (by cases h), fun _ _ h => (by cases h)⟩, by kernel_rfl, rfl, fun _ => ⟨rfl, rfl⟩, fun h => (by cases h)⟩
def ti193 : TI := ⟨1, [.nilFunc], .other, false⟩
theorem tiok193 : TIok Try.prog 193 ti193 := ⟨⟨_, Try.underlying193, fun _ h => (by cases h), fun _ _ h => (by cases h)⟩, by kernel_rfl, rfl, fun _ => ⟨rfl, rfl⟩, fun h => (by cases h)⟩
def ti194 : TI := ⟨1, [.nilFunc], .other, false⟩
theorem tiok194 : TIok Try.prog 194 ti194 := ⟨⟨_, Try.underlying194, fun _ h => (by cases h), fun _ _ h => (by cases h)⟩, by kernel_rfl, rfl, fun _ => ⟨rfl, rfl⟩, fun h => (by cases h)⟩
def ti197 : TI := ⟨1, [.nilFunc], .other, false⟩
theorem tiok197 : TIok Try.prog 197 ti197 := ⟨⟨_, Try.underlying197, fun _ h => (by cases h), fun _ _ h => (by cases h)⟩, by kernel_rfl, rfl, fun _ => ⟨rfl, rfl⟩, fun h => (by cases h)⟩
def ti198 : TI := ⟨1, [.nilFunc], .other, false⟩
theorem tiok198 : TIok Try.prog 198 ti198 := ⟨⟨_, Try.underlying198, fun _ h => (by cases h), fun _ _ h => (by cases h)⟩, by kernel_rfl, rfl, fun _ => ⟨rfl, rfl⟩, fun h => (by cases h)⟩
def ti199 : TI := ⟨1, [.nilFunc], .other, false⟩
theorem tiok199 : TIok Try.prog 199 ti199 := ⟨⟨_, Try.underlying199, fun _ h => (by cases h), fun _ _ h => (by cases h)⟩, by kernel_rfl, rfl, fun _ => ⟨rfl, rfl⟩, fun h => (by cases h)⟩
def ti200 : TI := ⟨1, [.nilFunc], .other, false⟩
theorem tiok200 : TIok Try.prog 200 ti200 := ⟨⟨_, Try.underlying200, fun _ h => (by cases h), fun _ _ h => (by cases h)⟩, by kernel_rfl, rfl, fun _ => ⟨rfl, rfl⟩, fun h => (by cases h)⟩
def ti201 : TI := ⟨1, [.nilFunc], .other, false⟩
theorem tiok201 : TIok Try.prog 201 ti201 := ⟨⟨_, Try.underlying201, fun _ h => (by cases h), fun _ _ h => (by cases h)⟩, by kernel_rfl, rfl, fun _ => ⟨rfl, rfl⟩, fun h => (by cases h)⟩
def ti202 : TI := ⟨1, [.nilFunc], .other, false⟩
theorem tiok202 : TIok Try.prog 202 ti202 := ⟨⟨_, Try.underlying202, fun _ h => (by cases h), fun _ _ h => (by cases h)⟩, by kernel_rfl, rfl, fun _ => ⟨rfl, rfl⟩, fun h => (by cases h)⟩
def ti203 : TI := ⟨1, [.pointer none], .other, false⟩
theorem tiok203 : TIok Try.prog 203 ti203 := ⟨⟨_, Try.underlying203, fun _ h => (by cases h), fun _ _ h => (by cases h)⟩, by kernel_rfl, rfl, fun _ => ⟨rfl, rfl⟩, fun h => (by cases h)⟩
def ti204 : TI := ⟨1, [.nilFunc], .other, false⟩
theorem tiok204 : TIok Try.prog 204 ti204 := ⟨⟨_, Try.underlying204, fun _ h => (by cases h), fun _ _ h => (by cases h)⟩, by kernel_rfl, rfl, fun _ => ⟨rfl, rfl⟩, fun h => (by cases h)⟩
def ti205 : TI := ⟨1, [.nilFunc], .other, false⟩
theorem tiok205 : TIok Try.prog 205 ti205 := ⟨⟨_, Try.underlying205, fun _ h => (by cases h), fun _ _ h => (by cases h)⟩, by kernel_rfl, rfl, fun _ => ⟨rfl, rfl⟩, fun h => (by cases h)⟩
def ti206 : TI := ⟨1, [.nilFunc], .other, false⟩
theorem tiok206 : TIok Try.prog 206 ti206 := ⟨⟨_, Try.underlying206, fun _ h => (by cases h), fun _ _ h => (by cases h)⟩, by kernel_rfl, rfl, fun _ => ⟨rfl, rfl⟩, fun h => (by cases h)⟩
def ti207 : TI := ⟨1, [.nilFunc], .other, false⟩
theorem tiok207 : TIok Try.prog 207 ti207 := ⟨⟨_, Try.underlying207, fun _ h => (by cases h), fun _ _ h => (by cases h)⟩, by kernel_rfl, rfl, fun _ => ⟨rfl, rfl⟩, fun h => (by cases h)⟩
def ti208 : TI := ⟨1, [.nilFunc], .other, false⟩
theorem tiok208 : TIok Try.prog 208 ti208 := ⟨⟨_, Try.underlying208, fun _ h => (by cases h), fun _ _ h => (by cases h)⟩, by kernel_rfl, rfl, fun _ => ⟨rfl, rfl⟩, fun h => (by cases h)⟩
def ti209 : TI := ⟨1, [.nilFunc], .other, false⟩
theorem tiok209 : TIok Try.prog 209 ti209 := ⟨⟨_, Try.underlying209, fun _ h => (by cases h), fun _ _ h => (by cases h)⟩, by kernel_rfl, rfl, fun _ => ⟨rfl, rfl⟩, fun h => (by cases h)⟩
def ti210 : TI := ⟨1, [.nilFunc], .other, false⟩
theorem tiok210 : TIok Try.prog 210 ti210 := ⟨⟨_, Try.underlying210, fun _ h => (by cases h), fun _ _ h => (by cases h)⟩, by kernel_rfl, rfl, fun _ => ⟨rfl, rfl⟩, fun h => (by cases h)⟩
def ti211 : TI := ⟨1, [.nilFunc], .other, false⟩
theorem tiok211 : TIok Try.prog 211 ti211 := ⟨⟨_, Try.underlying211, fun _ h => (by cases h), fun _ _ h => (by cases h)⟩, by kernel_rfl, rfl, fun _ => ⟨rfl, rfl⟩, fun h => (by cases h)⟩
def ti212 : TI := ⟨1, [.nilFunc], .other, false⟩
theorem tiok212 : TIok Try.prog 212 ti212 := ⟨⟨_, Try.underlying212, fun _ h => (by cases h), fun _ _ h => (by cases h)⟩, by kernel_rfl, rfl, fun _ => ⟨rfl, rfl⟩, fun h => (by cases h)⟩
def ti213 : TI := ⟨1, [.int .u32 0], .int .u32, false⟩
theorem tiok213 : TIok Try.prog 213 ti213 := ⟨⟨_, Try.underlying213, rfl⟩, by kernel_rfl, rfl, fun _ => ⟨rfl, rfl⟩, fun h => (by cases h)⟩
def ti215 : TI := ⟨1, [.nilFunc], .other, false⟩
theorem tiok215 : TIok Try.prog 215 ti215 := ⟨⟨_, Try.underlying215, fun _ h => (by cases h), fun _ _ h => (by cases h)⟩, by kernel_rfl, rfl, fun _ => ⟨rfl, rfl⟩, fun h => (by cases h)⟩
def ti223 : TI := ⟨1, [.nilFunc], .other, false⟩
theorem tiok223 : TIok Try.prog 223 ti223 := ⟨⟨_, Try.underlying223, fun _ h => (by cases h), fun _ _ h => (by cases h)⟩, by kernel_rfl, rfl, fun _ => ⟨rfl, rfl⟩, fun h => (by cases h)⟩
def ti224 : TI := ⟨1, [.int .i32 0], .int .i32, false⟩
theorem tiok224 : TIok Try.prog 224 ti224 := ⟨⟨_, Try.underlying224, rfl⟩, by kernel_rfl, rfl, fun _ => ⟨rfl, rfl⟩, fun h => (by cases h)⟩
def ti225 : TI := ⟨1, [.int .i32 0], .int .i32, false⟩
theorem tiok225 : TIok Try.prog 225 ti225 := ⟨⟨_, Try.underlying225, rfl⟩, by kernel_rfl, rfl, fun _ => ⟨rfl, rfl⟩, fun h => (by cases h)⟩
def tt : TT := [(2, ti2), (3, ti3), (4, ti4), (5, ti5), (6, ti6), (9, ti9), (10, ti10), (11, ti11), (37, ti37), (221, ti221), (222, ti222), (7, ti7), (8, ti8), (13, ti13), (14, ti14), (18, ti18), (19, ti19), (22, ti22), (23, ti23), (27, ti27), (28, ti28), (30, ti30), (31, ti31), (33, ti33), (34, ti34), (35, ti35), (36, ti36), (45, ti45), (46, ti46), (61, ti61), (64, ti64), (77, ti77), (85, ti85), (86, ti86), (97, ti97), (128, ti128), (129, ti129), (132, ti132), (135, ti135), (136, ti136), (138, ti138), (139, ti139), (148, ti148), (186, ti186), (187, ti187), (195, ti195), (196, ti196), (216, ti216), (217, ti217), (226, ti226), (227, ti227), (1, ti1), (12, ti12), (15, ti15), (16, ti16), (17, ti17), (20, ti20), (21, ti21), (24, ti24), (25, ti25), (26, ti26), (29, ti29), (32, ti32), (39, ti39), (41, ti41), (42, ti42), (43, ti43), (44, ti44), (48, ti48), (50, ti50), (52, ti52), (53, ti53), (54, ti54), (56, ti56), (57, ti57), (58, ti58), (59, ti59), (60, ti60), (63, ti63), (66, ti66), (67, ti67), (68, ti68), (70, ti70), (72, ti72), (74, ti74), (76, ti76), (79, ti79), (81, ti81), (82, ti82), (83, ti83), (84, ti84), (88, ti88), (90, ti90), (91, ti91), (92, ti92), (93, ti93), (94, ti94), (95, ti95), (96, ti96), (99, ti99), (101, ti101), (102, ti102), (103, ti103), (104, ti104), (105, ti105), (106, ti106), (107, ti107), (108, ti108), (109, ti109), (110, ti110), (112, ti112), (113, ti113), (114, ti114), (115, ti115), (116, ti116), (117, ti117), (118, ti118), (119, ti119), (121, ti121), (122, ti122), (123, ti123), (124, ti124), (125, ti125), (126, ti126), (127, ti127), (131, ti131), (134, ti134), (137, ti137), (140, ti140), (141, ti141), (142, ti142), (143, ti143), (145, ti145), (146, ti146), (147, ti147), (149, ti149), (150, ti150), (151, ti151), (152, ti152), (154, ti154), (155, ti155), (157, ti157), (158, ti158), (159, ti159), (160, ti160), (161, ti161), (162, ti162), (163, ti163), (164, ti164), (165, ti165), (166, ti166), (168, ti168), (169, ti169), (170, ti170), (171, ti171), (172, ti172), (173, ti173), (174, ti174), (175, ti175), (176, ti176), (178, ti178), (179, ti179), (181, ti181), (182, ti182), (183, ti183), (184, ti184), (185, ti185), (189, ti189), (190, ti190), (191, ti191), (192, ti192), (193, ti193), (194, ti194), (197, ti197), (198, ti198), (199, ti199), (200, ti200), (201, ti201), (202, ti202), (203, ti203), (204, ti204), (205, ti205), (206, ti206), (207, ti207), (208, ti208), (209, ti209), (210, ti210), (211, ti211), (212, ti212), (213, ti213), (215, ti215), (223, ti223), (224, ti224), (225, ti225)]
theorem tt_ok : TOk Try.prog tt := TOk.cons tiok2 (TOk.cons tiok3 (TOk.cons tiok4 (TOk.cons tiok5 (TOk.cons tiok6 (TOk.cons tiok9 (TOk.cons tiok10 (TOk.cons tiok11 (TOk.cons tiok37 (TOk.cons tiok221 (TOk.cons tiok222 (TOk.cons tiok7 (TOk.cons tiok8 (TOk.cons tiok13 (TOk.cons tiok14 (TOk.cons tiok18 (TOk.cons tiok19 (TOk.cons tiok22 (TOk.cons tiok23 (TOk.cons tiok27 (TOk.cons tiok28 (TOk.cons tiok30 (TOk.cons tiok31 (TOk.cons tiok33 (TOk.cons tiok34 (TOk.cons tiok35 (TOk.cons tiok36 (TOk.cons tiok45 (TOk.cons tiok46 (TOk.cons tiok61 (TOk.cons tiok64 (TOk.cons tiok77 (TOk.cons tiok85 (TOk.cons tiok86 (TOk.cons tiok97 (TOk.cons tiok128 (TOk.cons tiok129 (TOk.cons tiok132 (TOk.cons tiok135 (TOk.cons tiok136 (TOk.cons tiok138 (TOk.cons tiok139 (TOk.cons tiok148 (TOk.cons tiok186 (TOk.cons tiok187 (TOk.cons tiok195 (TOk.cons tiok196 (TOk.cons tiok216 (TOk.cons tiok217 (TOk.cons tiok226 (TOk.cons tiok227 (TOk.cons tiok1 (TOk.cons tiok12 (TOk.cons tiok15 (TOk.cons tiok16 (TOk.cons tiok17 (TOk.cons tiok20 (TOk.cons tiok21 (TOk.cons tiok24 (TOk.cons tiok25 (TOk.cons tiok26 (TOk.cons tiok29 (TOk.cons tiok32 (TOk.cons tiok39 (TOk.cons tiok41 (TOk.cons tiok42 (TOk.cons tiok43 (TOk.cons tiok44 (TOk.cons tiok48 (TOk.cons tiok50 (TOk.cons tiok52 (TOk.cons tiok53 (TOk.cons tiok54 (TOk.cons tiok56 (TOk.cons tiok57 (TOk.cons tiok58 (TOk.cons tiok59 (TOk.cons tiok60 (TOk.cons tiok63 (TOk.cons tiok66 (TOk.cons tiok67 (TOk.cons tiok68 (TOk.cons tiok70 (TOk.cons tiok72 (TOk.cons tiok74 (TOk.cons tiok76 (TOk.cons tiok79 (TOk.cons tiok81 (TOk.cons tiok82 (TOk.cons tiok83 (TOk.cons tiok84 (TOk.cons tiok88 (TOk.cons tiok90 (TOk.cons tiok91 (TOk.cons tiok92 (TOk.cons tiok93 (TOk.cons tiok94 (TOk.cons tiok95 (TOk.cons tiok96 (TOk.cons tiok99 (TOk.cons tiok101 (TOk.cons tiok102 (TOk.cons tiok103 (TOk.cons tiok104 (TOk.cons tiok105 (TOk.cons tiok106 (TOk.cons tiok107 (TOk.cons tiok108 (TOk.cons tiok109 (TOk.cons tiok110 (TOk.cons tiok112 (TOk.cons tiok113 (TOk.cons tiok114 (TOk.cons tiok115 (TOk.cons tiok116 (TOk.cons tiok117 (TOk.cons tiok118 (TOk.cons tiok119 (TOk.cons tiok121 (TOk.cons tiok122 (TOk.cons tiok123 (TOk.cons tiok124 (TOk.cons tiok125 (TOk.cons tiok126 (TOk.cons tiok127 (TOk.cons tiok131 (TOk.cons tiok134 (TOk.cons tiok137 (TOk.cons tiok140 (TOk.cons tiok141 (TOk.cons tiok142 (TOk.cons tiok143 (TOk.cons tiok145 (TOk.cons tiok146 (TOk.cons tiok147 (TOk.cons tiok149 (TOk.cons tiok150 (TOk.cons tiok151 (TOk.cons tiok152 (TOk.cons tiok154 (TOk.cons tiok155 (TOk.cons tiok157 (TOk.cons tiok158 (TOk.cons tiok159 (TOk.cons tiok160 (TOk.cons tiok161 (TOk.cons tiok162 (TOk.cons tiok163 (TOk.cons tiok164 (TOk.cons tiok165 (TOk.cons tiok166 (TOk.cons tiok168 (TOk.cons tiok169 (TOk.cons tiok170 (TOk.cons tiok171 (TOk.cons tiok172 (TOk.cons tiok173 (TOk.cons tiok174 (TOk.cons tiok175 (TOk.cons tiok176 (TOk.cons tiok178 (TOk.cons tiok179 (TOk.cons tiok181 (TOk.cons tiok182 (TOk.cons tiok183 (TOk.cons tiok184 (TOk.cons tiok185 (TOk.cons tiok189 (TOk.cons tiok190 (TOk.cons tiok191 (TOk.cons tiok192 (TOk.cons tiok193 (TOk.cons tiok194 (TOk.cons tiok197 (TOk.cons tiok198 (TOk.cons tiok199 (TOk.cons tiok200 (TOk.cons tiok201 (TOk.cons tiok202 (TOk.cons tiok203 (TOk.cons tiok204 (TOk.cons tiok205 (TOk.cons tiok206 (TOk.cons tiok207 (TOk.cons tiok208 (TOk.cons tiok209 (TOk.cons tiok210 (TOk.cons tiok211 (TOk.cons tiok212 (TOk.cons tiok213 (TOk.cons tiok215 (TOk.cons tiok223 (TOk.cons tiok224 (TOk.cons tiok225 (TOk.nil _))))))))))))))))))))))))))))))))))))))))))))))))))))))))))))))))))))))))))))))))))))))))))))))))))))))))))))))))))))))))))))))))))))))))))))))))))))))))))))))))))))))))))))))))))))))))))))))))))
theorem fn23 : Fn1 Try.prog 23 := ⟨fun a w => run_callFunc Try.func23 rfl (by kernel_rfl) a w⟩
theorem fn26 : Fn1 Try.prog 26 := ⟨fun a w => run_callFunc Try.func26 rfl (by kernel_rfl) a w⟩
theorem fn29 : Fn1 Try.prog 29 := ⟨fun a w => run_callFunc Try.func29 rfl (by kernel_rfl) a w⟩
theorem fn31 : Fn1 Try.prog 31 := ⟨fun a w => run_callFunc Try.func31 rfl (by kernel_rfl) a w⟩
theorem fn33 : Fn1 Try.prog 33 := ⟨fun a w => run_callFunc Try.func33 rfl (by kernel_rfl) a w⟩
theorem fn41 : Fn1 Try.prog 41 := ⟨fun a w => run_callFunc Try.func41 rfl (by kernel_rfl) a w⟩
theorem fn46 : Fn1 Try.prog 46 := ⟨fun a w => run_callFunc Try.func46 rfl (by kernel_rfl) a w⟩
theorem fn47 : Fn1 Try.prog 47 := ⟨fun a w => run_callFunc Try.func47 rfl (by kernel_rfl) a w⟩
theorem fn78 : Fn1 Try.prog 78 := ⟨fun a w => run_callFunc Try.func78 rfl (by kernel_rfl) a w⟩
theorem fn79 : Fn1 Try.prog 79 := ⟨fun a w => run_callFunc Try.func79 rfl (by kernel_rfl) a w⟩
theorem fn83 : Fn1 Try.prog 83 := ⟨fun a w => run_callFunc Try.func83 rfl (by kernel_rfl) a w⟩
theorem fn84 : Fn1 Try.prog 84 := ⟨fun a w => run_callFunc Try.func84 rfl (by kernel_rfl) a w⟩
theorem fn85 : Fn1 Try.prog 85 := ⟨fun a w => run_callFunc Try.func85 rfl (by kernel_rfl) a w⟩
theorem fn88 : Fn1 Try.prog 88 := ⟨fun a w => run_callFunc Try.func88 rfl (by kernel_rfl) a w⟩
theorem fn89 : Fn1 Try.prog 89 := ⟨fun a w => run_callFunc Try.func89 rfl (by kernel_rfl) a w⟩
theorem fn90 : Fn1 Try.prog 90 := ⟨fun a w => run_callFunc Try.func90 rfl (by kernel_rfl) a w⟩
theorem fn91 : Fn1 Try.prog 91 := ⟨fun a w => run_callFunc Try.func91 rfl (by kernel_rfl) a w⟩
theorem fn97 : Fn1 Try.prog 97 := ⟨fun a w => run_callFunc Try.func97 rfl (by kernel_rfl) a w⟩
theorem fn98 : Fn1 Try.prog 98 := ⟨fun a w => run_callFunc Try.func98 rfl (by kernel_rfl) a w⟩
theorem fn99 : Fn1 Try.prog 99 := ⟨fun a w => run_callFunc Try.func99 rfl (by kernel_rfl) a w⟩
theorem fn100 : Fn1 Try.prog 100 := ⟨fun a w => run_callFunc Try.func100 rfl (by kernel_rfl) a w⟩
theorem fn102 : Fn1 Try.prog 102 := ⟨fun a w => run_callFunc Try.func102 rfl (by kernel_rfl) a w⟩
theorem fn103 : Fn1 Try.prog 103 := ⟨fun a w => run_callFunc Try.func103 rfl (by kernel_rfl) a w⟩
theorem fn104 : Fn1 Try.prog 104 := ⟨fun a w => run_callFunc Try.func104 rfl (by kernel_rfl) a w⟩
theorem fn105 : Fn1 Try.prog 105 := ⟨fun a w => run_callFunc Try.func105 rfl (by kernel_rfl) a w⟩
theorem fn106 : Fn1 Try.prog 106 := ⟨fun a w => run_callFunc Try.func106 rfl (by kernel_rfl) a w⟩
theorem fn107 : Fn1 Try.prog 107 := ⟨fun a w => run_callFunc Try.func107 rfl (by kernel_rfl) a w⟩
theorem fn118 : Fn1 Try.prog 118 := ⟨fun a w => run_callFunc Try.func118 rfl (by kernel_rfl) a w⟩
theorem fn128 : Fn1 Try.prog 128 := ⟨fun a w => run_callFunc Try.func128 rfl (by kernel_rfl) a w⟩
theorem fn129 : Fn1 Try.prog 129 := ⟨fun a w => run_callFunc Try.func129 rfl (by kernel_rfl) a w⟩
theorem fn130 : Fn1 Try.prog 130 := ⟨fun a w => run_callFunc Try.func130 rfl (by kernel_rfl) a w⟩
theorem fn131 : Fn1 Try.prog 131 := ⟨fun a w => run_callFunc Try.func131 rfl (by kernel_rfl) a w⟩
theorem fn132 : Fn1 Try.prog 132 := ⟨fun a w => run_callFunc Try.func132 rfl (by kernel_rfl) a w⟩
theorem fn133 : Fn1 Try.prog 133 := ⟨fun a w => run_callFunc Try.func133 rfl (by kernel_rfl) a w⟩
theorem fn138 : Fn1 Try.prog 138 := ⟨fun a w => run_callFunc Try.func138 rfl (by kernel_rfl) a w⟩
theorem fn139 : Fn1 Try.prog 139 := ⟨fun a w => run_callFunc Try.func139 rfl (by kernel_rfl) a w⟩
theorem fn140 : Fn1 Try.prog 140 := ⟨fun a w => run_callFunc Try.func140 rfl (by kernel_rfl) a w⟩
theorem fn141 : Fn1 Try.prog 141 := ⟨fun a w => run_callFunc Try.func141 rfl (by kernel_rfl) a w⟩
theorem fn149 : Fn1 Try.prog 149 := ⟨fun a w => run_callFunc Try.func149 rfl (by kernel_rfl) a w⟩
theorem fn150 : Fn1 Try.prog 150 := ⟨fun a w => run_callFunc Try.func150 rfl (by kernel_rfl) a w⟩
theorem fn151 : Fn1 Try.prog 151 := ⟨fun a w => run_callFunc Try.func151 rfl (by kernel_rfl) a w⟩
theorem fn152 : Fn1 Try.prog 152 := ⟨fun a w => run_callFunc Try.func152 rfl (by kernel_rfl) a w⟩
theorem fn153 : Fn1 Try.prog 153 := ⟨fun a w => run_callFunc Try.func153 rfl (by kernel_rfl) a w⟩
theorem fn155 : Fn1 Try.prog 155 := ⟨fun a w => run_callFunc Try.func155 rfl (by kernel_rfl) a w⟩
theorem fn156 : Fn1 Try.prog 156 := ⟨fun a w => run_callFunc Try.func156 rfl (by kernel_rfl) a w⟩
theorem fn157 : Fn1 Try.prog 157 := ⟨fun a w => run_callFunc Try.func157 rfl (by kernel_rfl) a w⟩
theorem fn164 : Fn1 Try.prog 164 := ⟨fun a w => run_callFunc Try.func164 rfl (by kernel_rfl) a w⟩
theorem fn166 : Fn1 Try.prog 166 := ⟨fun a w => run_callFunc Try.func166 rfl (by kernel_rfl) a w⟩
theorem fn167 : Fn1 Try.prog 167 := ⟨fun a w => run_callFunc Try.func167 rfl (by kernel_rfl) a w⟩
theorem fn168 : Fn1 Try.prog 168 := ⟨fun a w => run_callFunc Try.func168 rfl (by kernel_rfl) a w⟩
theorem fn169 : Fn1 Try.prog 169 := ⟨fun a w => run_callFunc Try.func169 rfl (by kernel_rfl) a w⟩
theorem fn178 : Fn1 Try.prog 178 := ⟨fun a w => run_callFunc Try.func178 rfl (by kernel_rfl) a w⟩
theorem fn179 : Fn1 Try.prog 179 := ⟨fun a w => run_callFunc Try.func179 rfl (by kernel_rfl) a w⟩
theorem fn180 : Fn1 Try.prog 180 := ⟨fun a w => run_callFunc Try.func180 rfl (by kernel_rfl) a w⟩
end Go.Proofs.Ytdonomneofdhfaa
namespace Go.Proofs.Ytdonomneofdhfaa
open Go.GV Go.RowKit
theorem mix : Try.prog.follows .mixedOrders = true := by kernel_rfl
theorem noEscape_run (x : Value) (w : World) : (callFunc 158 #[x]).run Try.prog w = .ok (.value x) w := by
  rw [run_callFunc_extern Try.func158 (by kernel_rfl) (by kernel_rfl) (by kernel_rfl) (e := Extern.AbiNoEscape.same) (by kernel_rfl)]
  rfl
def bAddr (used : Bool) : SV := match used with
  | true => .p 0 0
  | false => .v (.pointer none)
set_option maxRecDepth 100000 in
theorem copyCheck_sc (used : Bool) (L : List UInt8) : SC Try.prog 140 (fun _ => True) 2 [(0, .box 139 [bAddr used, .r 1]), (1, .row 5 (byteY.d L))] [.p 0 0] (fun _ : Unit => ([(0, .box 139 [.p 0 0, .r 1]), (1, .row 5 (byteY.d L))], 2, .tuple #[])) (fun _ => True) := by
  refine x_sc tt_ok Try.func140 rfl rfl rfl (by cases used <;> rfl) (fun u _ => ?_)
  cases used
  · refine x_vc tt_ok ?_
    refine xl_eqpNil rfl rfl rfl rfl (by kernel_rfl) rfl ?_
    refine xl_go tt_ok ?_
    refine x_ift rfl ?_
    refine xl_toUnsafe rfl rfl rfl rfl Try.underlying137 Try.underlying203 (by kernel_rfl) rfl rfl rfl ?_
    refine xl_go tt_ok ?_
    refine xl_extern1 rfl rfl rfl rfl rfl noEscape_run rfl ?_
    refine xl_go tt_ok ?_
    refine xl_fromUnsafe (n := 2) rfl rfl rfl rfl Try.underlying203 Try.underlying137 (by kernel_rfl) rfl rfl rfl (by kernel_rfl) ?_
    refine xl_go tt_ok ?_
    exact ⟨(), [], [], rfl, rfl, .of rfl rfl rfl rfl rfl rfl, of_decide_eq_true rfl, trivial⟩
  · refine x_vc tt_ok ?_
    refine xl_eqpSome rfl rfl rfl rfl (by kernel_rfl) rfl ?_
    refine xl_go tt_ok ?_
    refine x_iff rfl ?_
    refine xl_neqSelf rfl rfl rfl rfl Try.underlying137 (by kernel_rfl) rfl rfl ?_
    refine xl_go tt_ok ?_
    refine x_iff rfl ?_
    exact ⟨(), [], [], rfl, rfl, .of rfl rfl rfl rfl rfl rfl, of_decide_eq_true rfl, trivial⟩
set_option maxRecDepth 100000 in
theorem writeByte_sc (used : Bool) (L : List UInt8) (x : UInt8) (hL : L.length + 1 ≤ 140737488355328) :
    SC Try.prog 103 (fun _ => True) 2 [(0, .box 139 [bAddr used, .r 1]), (1, .row 5 (byteY.d L))] [.p 0 0, .v (.int .u8 (x.toNat : Int))]
      (fun _ : Unit => ([(0, .box 139 [.p 0 0, .r 2]), (2, .row 5 (byteY.d (L ++ [x])))], 3, .nilIface)) (fun _ => True) := by
  refine x_sc tt_ok Try.func103 rfl rfl rfl (by cases used <;> rfl) (fun u _ => ?_)
  refine x_vc tt_ok ?_
  refine xl_callSC (copyCheck_sc used L) (fun _ _ _ _ => trivial) trivial [0, 1] rfl rfl rfl rfl fn140 rfl rfl rfl rfl rfl (by cases used <;> rfl) (by cases used <;> rfl) (fun _ => rfl) (fun _ u1 hu1 _ => ?_)
  refine xl_go tt_ok ?_
  refine xl_push tt_ok byteY L x 1 (cs := [.int .u8 (x.toNat : Int)]) rfl rfl rfl rfl rfl rfl rfl rfl rfl rfl rfl rfl (by kernel_rfl) rfl rfl rfl rfl rfl (fun n hn => by cases hn; decide) rfl rfl rfl (by omega) (by omega) ?_
  refine xl_go tt_ok ?_
  exact ⟨(), [], [_], rfl, rfl, .of rfl rfl rfl rfl rfl rfl, of_decide_eq_true rfl, trivial⟩
set_option maxRecDepth 100000 in
theorem writeString_sc (used : Bool) (L : List UInt8) (x : ByteArray) (hL : L.length + x.size ≤ 140737488355328) :
    SC Try.prog 105 (fun _ => True) 2 [(0, .box 139 [bAddr used, .r 1]), (1, .row 5 (byteY.d L))] [.p 0 0, .v (.string x)]
      (fun _ : Unit => ([(0, .box 139 [.p 0 0, .r 2]), (2, .row 5 (byteY.d (L ++ x.data.toList)))], 3, .tuple #[.int .i64 x.size, .nilIface])) (fun _ => True) := by
  refine x_sc tt_ok Try.func105 rfl rfl rfl (by cases used <;> rfl) (fun u _ => ?_)
  refine x_vc tt_ok ?_
  refine xl_callSC (copyCheck_sc used L) (fun _ _ _ _ => trivial) trivial [0, 1] rfl rfl rfl rfl fn140 rfl rfl rfl rfl rfl (by cases used <;> rfl) (by cases used <;> rfl) (fun _ => rfl) (fun _ u1 hu1 _ => ?_)
  refine xl_go tt_ok ?_
  refine xl_appStr tt_ok L rfl rfl rfl rfl rfl rfl rfl (by kernel_rfl) rfl rfl rfl rfl hL ?_
  refine xl_go tt_ok ?_
  exact ⟨(), [], [_, _], rfl, rfl, .of rfl rfl rfl rfl rfl rfl, of_decide_eq_true rfl, trivial⟩
set_option maxRecDepth 100000 in
theorem len_sc (used : Bool) (L : List UInt8) : SC Try.prog 106 (fun _ => True) 2 [(0, .box 139 [bAddr used, .r 1]), (1, .row 5 (byteY.d L))] [.p 0 0]
      (fun _ : Unit => ([(0, .box 139 [bAddr used, .r 1]), (1, .row 5 (byteY.d L))], 2, .int .i64 L.length)) (fun _ => True) := by
  refine x_sc tt_ok Try.func106 rfl rfl rfl (by cases used <;> rfl) (fun u _ => ?_)
  refine x_vc tt_ok ?_
  cases used
  · exact ⟨(), [], [_], rfl, rfl, .of rfl rfl rfl rfl rfl rfl, of_decide_eq_true rfl, trivial⟩
  · exact ⟨(), [], [_], rfl, rfl, .of rfl rfl rfl rfl rfl rfl, of_decide_eq_true rfl, trivial⟩
set_option maxRecDepth 100000 in
theorem lenNil_sc : SC Try.prog 106 (fun _ => True) 1 [(0, .box 139 [.v (.pointer none), .v (.slice none 0 0)])] [.p 0 0]
      (fun _ : Unit => ([(0, .box 139 [.v (.pointer none), .v (.slice none 0 0)])], 1, .int .i64 0)) (fun _ => True) := by
  refine x_sc tt_ok Try.func106 rfl rfl rfl rfl (fun u _ => ?_)
  refine x_vc tt_ok ?_
  exact ⟨(), [], [_], rfl, rfl, .of rfl rfl rfl rfl rfl rfl, of_decide_eq_true rfl, trivial⟩
set_option maxRecDepth 100000 in
theorem stringNil_sc : SC Try.prog 107 (fun _ => True) 1 [(0, .box 139 [.v (.pointer none), .v (.slice none 0 0)])] [.p 0 0]
      (fun _ : Unit => ([], 1, .string ⟨#[]⟩)) (fun _ => True) := by
  refine x_sc tt_ok Try.func107 rfl rfl rfl rfl (fun u _ => ?_)
  refine x_vc tt_ok ?_
  refine x_drawA mix ?_
  refine xa_phase tt_ok (fuel := 2) [0, 1, 2, 3, 4, 5, 6, 7, 8, 9] rfl (by kernel_rfl) (by kernel_rfl) (by kernel_rfl) (by kernel_rfl) (xd_go tt_ok ?_)
  refine xd_sdNil rfl rfl rfl rfl rfl (xd_go tt_ok ?_)
  refine xa_one 10 (by kernel_rfl) rfl ?_
  refine xl_usNone rfl rfl rfl rfl rfl rfl (xl_go tt_ok ?_)
  refine xa_one 11 (by kernel_rfl) rfl (xl_go tt_ok ?_)
  refine xa_done (by kernel_rfl) rfl ?_
  exact ⟨(), [], [_], rfl, rfl, .of rfl rfl rfl rfl rfl rfl, of_decide_eq_true rfl, trivial⟩
set_option maxRecDepth 100000 in
theorem string_sc (used : Bool) (L : List UInt8) (hL : L ≠ []) : SC Try.prog 107 (fun _ => True) 2 [(0, .box 139 [bAddr used, .r 1]), (1, .row 5 (byteY.d L))] [.p 0 0]
      (fun _ : Unit => ([], 2, .string ⟨L.toArray⟩)) (fun _ => True) := by
  refine x_sc tt_ok Try.func107 rfl rfl rfl (by cases used <;> rfl) (fun u _ => ?_)
  refine x_vc tt_ok ?_
  refine x_drawA mix ?_
  refine xa_phase tt_ok (fuel := 2) [0, 1, 2, 3, 4, 5, 6, 7, 8, 9] rfl (by kernel_rfl) (by kernel_rfl) (by kernel_rfl) (by kernel_rfl) (xd_go tt_ok ?_)
  refine xd_sdRow byteY L rfl rfl rfl rfl rfl rfl hL (xd_go tt_ok ?_)
  refine xa_one 10 (by kernel_rfl) rfl ?_
  refine xl_usRow L rfl rfl rfl rfl rfl rfl rfl hL Try.underlying190 (by kernel_rfl) (xl_go tt_ok ?_)
  refine xa_one 11 (by kernel_rfl) rfl (xl_go tt_ok ?_)
  refine xa_done (by kernel_rfl) rfl ?_
  exact ⟨(), [], [_], rfl, rfl, .of rfl rfl rfl rfl rfl rfl, of_decide_eq_true rfl, trivial⟩
end Go.Proofs.Ytdonomneofdhfaa
namespace Go.Proofs.Ytdonomneofdhfaa
open Go.GV Go.RowKit
def third (c : Int) : Int :=
  if c = 61 then 35 else if c = 47 then 92 else if c = 39 then 94 else if c = 40 then 91 else if c = 41 then 93
  else if c = 33 then 124 else if c = 60 then 123 else if c = 62 then 125 else if c = 45 then 126 else 0
def isThird (c : Int) : Bool := decide (third c ≠ 0)
set_option maxRecDepth 100000 in
theorem third_any (c : Int) (w : World) : Calls Try.prog 141 #[.int .u8 c] w (PureP w fun v _ => v = .tuple #[.int .u8 (third c), .bool (isThird c)]) := by
  refine x_fun tt_ok Try.func141 rfl rfl [] 0 [.v (.int .u8 c)] rfl rfl rfl rfl (fun b hb => by cases hb) ?_
  refine x_vc tt_ok ?_
  iterate 9
    refine x_if (fun h => ?_) (fun h => ?_)
    · have h := of_decide_eq_true h
      subst h
      refine fin1 (fun _ _ => rfl)
  refine fin1 (fun _ _ => ?_)
  simp only [decide_eq_true_eq, decide_eq_false_iff_not] at *
  have : third c = 0 := by unfold third; simp [*]
  simp only [isThird, this]
  rfl
def isTri (s : ByteArray) (i : Int) : Bool := decide (i + 3 ≤ s.size) && (decide (bt s i = 63) && (decide (bt s (i + 1) = 63) && isThird (bt s (i + 2))))
def parted (s : ByteArray) (i : Int) : Bool := (decide (i + 1 < s.size) && (decide (bt s i = 92) && decide (bt s (i + 1) = 10))) || isTri s i
set_option maxRecDepth 100000 in
theorem parted_any (s : ByteArray) (i : Int) (w : World) (h0 : 0 ≤ i) (h1 : i < s.size) (hs : s.size ≤ 140737488355328) :
    Calls Try.prog 104 #[.string s, .int .i64 i] w (PureP w fun v _ => v = .bool (parted s i)) := by
  refine x_fun tt_ok Try.func104 rfl rfl [] 0 [.v (.string s), .v (.int .i64 i)] rfl rfl rfl rfl (fun b hb => by cases hb) ?_
  refine x_vc tt_ok ?_
  repeat (refine And.intro ?_ ?_; first | omega | (simp only [decide_eq_true_eq, decide_eq_false_iff_not, Bool.or_eq_false_iff, Bool.and_eq_true, Bool.or_eq_true, Bool.and_eq_false_iff, Bool.not_eq_true', Bool.not_eq_false']; omega))
  refine x_if (fun h => ?_) (fun h => ?_)
  · have h' : ((decide (i + 1 < s.size) && decide (bt s i = 92)) && decide (bt s (i + 1) = 10)) = true := h
    refine fin1 (fun _ _ => ?_)
    rw [Bool.and_assoc] at h'
    unfold parted
    rw [h']; rfl
  · have h' : ((decide (i + 1 < s.size) && decide (bt s i = 92)) && decide (bt s (i + 1) = 10)) = false := h
    rw [Bool.and_assoc] at h'
    have e : parted s i = isTri s i := by unfold parted; rw [h']; rfl
    rw [e]
    repeat (refine And.intro ?_ ?_; first | omega | (simp only [decide_eq_true_eq, decide_eq_false_iff_not, Bool.or_eq_false_iff, Bool.and_eq_true, Bool.or_eq_true, Bool.and_eq_false_iff, Bool.not_eq_true', Bool.not_eq_false']; omega))
    refine x_if (fun h2 => ?_) (fun h2 => ?_)
    · have h2' : ((decide (i + 2 < s.size) && decide (bt s i = 63)) && decide (bt s (i + 1) = 63)) = true := h2
      rw [Bool.and_eq_true, Bool.and_eq_true, decide_eq_true_eq, decide_eq_true_eq, decide_eq_true_eq] at h2'
      have e3 : isTri s i = isThird (bt s (i + 2)) := by
        unfold isTri
        rw [decide_eq_true (by omega), decide_eq_true h2'.1.2, decide_eq_true h2'.2]; rfl
      repeat (refine And.intro ?_ ?_; first | omega | (simp only [decide_eq_true_eq, decide_eq_false_iff_not, Bool.or_eq_false_iff, Bool.and_eq_true, Bool.or_eq_true, Bool.and_eq_false_iff, Bool.not_eq_true', Bool.not_eq_false']; omega))
      refine xl_call0 (.tuple #[.int .u8 (third (bt s (i + 2))), .bool (isThird (bt s (i + 2)))]) rfl rfl rfl rfl fn141 rfl rfl (fun E w F hs => third_any _ w) ?_
      refine xl_go tt_ok ?_
      refine fin1 (fun _ _ => ?_)
      rw [e3]
      rfl
    · have h2' : ((decide (i + 2 < s.size) && decide (bt s i = 63)) && decide (bt s (i + 1) = 63)) = false := h2
      refine fin1 (fun _ _ => ?_)
      have e3 : isTri s i = false := by
        unfold isTri
        rw [Bool.and_eq_false_iff, Bool.and_eq_false_iff, decide_eq_false_iff_not, decide_eq_false_iff_not, decide_eq_false_iff_not] at h2'
        rcases h2' with (h2' | h2') | h2'
        · rw [decide_eq_false (by omega)]; rfl
        · rw [decide_eq_false h2']; simp
        · rw [decide_eq_false h2']; simp
      rw [e3]
      rfl
end Go.Proofs.Ytdonomneofdhfaa
namespace Go.Proofs.Ytdonomneofdhfaa
open Go.GV Go.RowKit
structure Part where
  b : Int
  pos : Int
  len : Int
  sp : Bool
def Part.val (p : Part) : Value := .agg #[.int .u8 p.b, .int .i64 p.pos, .int .i64 p.len, .bool p.sp]
def triB (s : ByteArray) (i : Int) : Bool := decide (i + 2 < s.size) && decide (bt s i = 63) && decide (bt s (i + 1) = 63) && isThird (bt s (i + 2))
def chB (s : ByteArray) (i : Int) : Int := if triB s i then third (bt s (i + 2)) else bt s i
def chN (s : ByteArray) (i : Int) : Int := if triB s i then 3 else 1
def spl (s : ByteArray) (i : Int) : Bool := decide (chB s i = 92) && decide (i + chN s i < s.size) && decide (bt s (i + chN s i) = 10)
def partP (s : ByteArray) (i : Int) : Part := if spl s i then ⟨0, i, chN s i + 1, true⟩ else ⟨chB s i, i, chN s i, false⟩
set_option maxRecDepth 100000 in
theorem partAt_any (s : ByteArray) (i : Int) (h0 : 0 ≤ i) (h1 : i < s.size) (hs : s.size ≤ 140737488355328) (w : World) :
    Calls Try.prog 157 #[.string s, .int .i64 i] w (PureP w fun v _ => v = (partP s i).val) := by
  refine x_fun tt_ok Try.func157 rfl rfl [] 0 [.v (.string s), .v (.int .i64 i)] rfl rfl rfl rfl (fun b hb => by cases hb) ?_
  refine x_vc tt_ok ?_
  repeat (refine And.intro ?_ ?_; first | omega | (simp <;> omega))
  refine x_if (fun h => ?_) (fun h => ?_)
  · have h' := h
    simp only [Bool.and_eq_true, decide_eq_true_eq] at h
    repeat (refine And.intro ?_ ?_; first | omega | (simp <;> omega))
    refine xl_call0 (.tuple #[.int .u8 (third (bt s (i + 2))), .bool (isThird (bt s (i + 2)))]) rfl rfl rfl rfl fn141 rfl rfl (fun E w F _ => third_any _ w) ?_
    refine xl_go tt_ok ?_
    refine x_if (fun h2 => ?_) (fun h2 => ?_)
    · have ht : triB s i = true := by unfold triB; rw [h', h2]; rfl
      have hc : chB s i = third (bt s (i + 2)) := by simp [chB, ht]
      have hn : chN s i = 3 := by simp [chN, ht]
      repeat (refine And.intro ?_ ?_; first | omega | (simp <;> omega))
      refine x_if (fun h3 => ?_) (fun h3 => ?_)
      · have hs3 : spl s i = true := by unfold spl; rw [hc, hn]; exact h3
        repeat (refine And.intro ?_ ?_; first | omega | (simp <;> omega))
        refine fin1 (fun _ _ => ?_)
        rw [partP, if_pos hs3, hn]; rfl
      · have hs3 : spl s i = false := by unfold spl; rw [hc, hn]; exact h3
        repeat (refine And.intro ?_ ?_; first | omega | (simp <;> omega))
        refine fin1 (fun _ _ => ?_)
        rw [partP, if_neg (by rw [hs3]; simp), hn, hc]; rfl
    · have ht : triB s i = false := by unfold triB; rw [h', h2]; rfl
      have hc : chB s i = bt s i := by simp [chB, ht]
      have hn : chN s i = 1 := by simp [chN, ht]
      repeat (refine And.intro ?_ ?_; first | omega | (simp <;> omega))
      refine x_if (fun h3 => ?_) (fun h3 => ?_)
      · have hs3 : spl s i = true := by unfold spl; rw [hc, hn]; exact h3
        repeat (refine And.intro ?_ ?_; first | omega | (simp <;> omega))
        refine fin1 (fun _ _ => ?_)
        rw [partP, if_pos hs3, hn]; rfl
      · have hs3 : spl s i = false := by unfold spl; rw [hc, hn]; exact h3
        repeat (refine And.intro ?_ ?_; first | omega | (simp <;> omega))
        refine fin1 (fun _ _ => ?_)
        rw [partP, if_neg (by rw [hs3]; simp), hn, hc]; rfl
  · have ht : triB s i = false := by unfold triB; rw [h]; rfl
    have hc : chB s i = bt s i := by simp [chB, ht]
    have hn : chN s i = 1 := by simp [chN, ht]
    repeat (refine And.intro ?_ ?_; first | omega | (simp <;> omega))
    refine x_if (fun h3 => ?_) (fun h3 => ?_)
    · have hs3 : spl s i = true := by unfold spl; rw [hc, hn]; exact h3
      repeat (refine And.intro ?_ ?_; first | omega | (simp <;> omega))
      refine fin1 (fun _ _ => ?_)
      rw [partP, if_pos hs3, hn]; rfl
    · have hs3 : spl s i = false := by unfold spl; rw [hc, hn]; exact h3
      repeat (refine And.intro ?_ ?_; first | omega | (simp <;> omega))
      refine fin1 (fun _ _ => ?_)
      rw [partP, if_neg (by rw [hs3]; simp), hn, hc]; rfl
theorem partP_pos (s : ByteArray) (i : Int) : (partP s i).pos = i := by unfold partP; split <;> rfl
theorem partP_len (s : ByteArray) {i : Int} (h0 : 0 ≤ i) (h1 : i < s.size) : 1 ≤ (partP s i).len ∧ i + (partP s i).len ≤ s.size := by
  have hn : 1 ≤ chN s i ∧ i + chN s i ≤ s.size := by
    unfold chN
    split
    · rename_i h
      unfold triB at h
      simp only [Bool.and_eq_true, decide_eq_true_eq] at h
      omega
    · omega
  unfold partP
  split
  · rename_i h
    unfold spl at h
    simp only [Bool.and_eq_true, decide_eq_true_eq] at h
    exact ⟨by show 1 ≤ chN s i + 1; omega, by show i + (chN s i + 1) ≤ _; omega⟩
  · exact hn
set_option maxRecDepth 100000 in
theorem end_any (p : Part) (w : World) (h0 : 0 ≤ p.pos) (h1 : 0 ≤ p.len) (h2 : p.pos + p.len ≤ 9223372036854775807) :
    Calls Try.prog 155 #[p.val] w (PureP w fun v _ => v = .int .i64 (p.pos + p.len)) := by
  refine x_fun tt_ok Try.func155 rfl rfl [] 0 [.v (.agg #[.int .u8 p.b, .int .i64 p.pos, .int .i64 p.len, .bool p.sp])] rfl rfl rfl rfl (fun b hb => by cases hb) ?_
  refine x_vc tt_ok ?_
  repeat (refine And.intro ?_ ?_; first | omega | (simp <;> omega))
  exact fin1 (fun _ _ => rfl)
def partsF (s : ByteArray) : Nat → Int → List Part
  | 0, _ => []
  | n + 1, i => if i < s.size then partP s i :: partsF s n (i + (partP s i).len) else []
def partsV (s : ByteArray) : List Part := partsF s s.size 0
theorem partsF_step (s : ByteArray) {n : Nat} {i : Int} (h : i < s.size) (hn : s.size - i ≤ n) (h0 : 0 ≤ i) : ∃ m, partsF s n i = partP s i :: partsF s m (i + (partP s i).len) ∧ s.size - (i + (partP s i).len) ≤ m := by
  cases n with
  | zero => omega
  | succ m =>
    refine ⟨m, by simp only [partsF]; rw [if_pos h], ?_⟩
    have := (partP_len s h0 h).1
    omega
theorem partsF_end (s : ByteArray) {n : Nat} {i : Int} (h : ¬ i < s.size) : partsF s n i = [] := by
  cases n with
  | zero => rfl
  | succ m => simp only [partsF]; rw [if_neg h]
set_option maxRecDepth 100000 in
theorem parts_iter (s : ByteArray) (b : Nat) (u0 : Im) (hb : u0.h b = some (.cells #[.string s] 9 (0, 0))) (hs : s.size ≤ 140737488355328) :
    Iter Try.prog 156 #[.pointer (some ⟨b, 0, none⟩)] ((partsV s).map Part.val) u0 := by
  refine x_iter tt_ok Try.func156 rfl rfl [(.slice (some ⟨b, 0, none⟩) 1 1, ⟨1, [fun _ => .string s]⟩)] [.e 1 1 0 0] (boxEnv b) (fun j x hj => ?_) rfl rfl (fun x hx => ?_) (fun x hx => ?_) (fun l Y Z u hu hR => ?_)
  · match j, hj with
    | 0, hj => cases hj; rfl
    | j + 1, hj => simp at hj
  · simp only [List.mem_singleton] at hx
    subst hx
    exact ⟨by simp, _, 1, 1, rfl, Int.le_refl _, by omega⟩
  · simp only [List.mem_singleton] at hx
    subst hx
    exact SlAt.box1 hb
  refine x_vc tt_ok ?_
  refine x_loop (σ := Nat × Int) (fun (k, i) => ⟨[(3, .v (.int .i64 i)), (0, .v (.func (.yield l) #[] #[])), (1, .e 1 1 0 0)], [], [(0, .gen (Y k).hp), (1, .sl ⟨1, [fun _ => .string s]⟩)], 2⟩)
    (fun (k, i) _ => 0 ≤ i ∧ i ≤ s.size ∧ ∃ n pre, pre.length = k ∧ partsV s = pre ++ partsF s n i ∧ s.size - i ≤ n) (fun (_, i) => (s.size - i).toNat) (fun (_, _) => Nat.le_refl _) (0, 0) [] (.of rfl rfl rfl rfl rfl rfl)
    ⟨by omega, by omega, s.size, [], rfl, rfl, by omega⟩ ?_
  rintro ⟨k, i⟩ u2 hu2 ⟨g1, g2, n, pre, g3, g4, g5⟩
  refine x_vc tt_ok ?_
  repeat (refine And.intro ?_ ?_; first | omega | (simp <;> omega))
  refine x_if (fun h => ?_) (fun h => ?_)
  · have h2 : i < s.size := of_decide_eq_true h
    obtain ⟨hl1, hl2⟩ := partP_len s g1 h2
    obtain ⟨m, e1, e2⟩ := partsF_step s h2 g5 g1
    have hx : ((partsV s).map Part.val)[k]? = some (partP s i).val := by
      rw [List.getElem?_map, g4, e1, List.getElem?_append_right (by omega), g3, Nat.sub_self]; rfl
    refine xl_call0 (partP s i).val rfl rfl rfl rfl fn157 rfl rfl (fun E w F _ => partAt_any s i g1 h2 hs w) ?_
    refine xl_go tt_ok ?_
    refine xl_yield (kY := 0) rfl hR rfl rfl rfl rfl rfl rfl rfl rfl hx ?_ ?_
    · refine xl_go tt_ok ?_
      refine x_iff rfl ?_
      repeat (refine And.intro ?_ ?_; first | omega | (simp <;> omega))
      refine xl_call0 (.int .i64 ((partP s i).pos + (partP s i).len)) rfl rfl rfl rfl fn155 rfl rfl (fun E w F _ => end_any (partP s i) w (by rw [partP_pos]; omega) (by omega) (by rw [partP_pos]; omega)) ?_
      refine xl_go tt_ok ?_
      rw [partP_pos]
      refine again (k + 1, i + (partP s i).len) [] (.of rfl rfl rfl rfl rfl rfl) ⟨by omega, by omega, m, pre ++ [partP s i], by rw [List.length_append, g3]; rfl, by rw [g4, e1]; simp, e2⟩ (by simp only; omega)
    · refine xl_go tt_ok ?_
      refine x_ift rfl ?_
      exact .inr rfl
  · have h2 : ¬ i < s.size := of_decide_eq_false h
    rw [partsF_end s h2, List.append_nil] at g4
    have hk : ((partsV s).map Part.val).length = k := by rw [List.length_map, g4, g3]
    exact .inl (by rw [hk]; rfl)
end Go.Proofs.Ytdonomneofdhfaa
namespace Go.Proofs.Ytdonomneofdhfaa
open Go.GV Go.RowKit
def PartsFn (s : ByteArray) (v : Value) (u : Im) : Prop := ∃ b, v = .func (.func 156) #[] #[.pointer (some ⟨b, 0, none⟩)] ∧ u.h b = some (.cells #[.string s] 9 (0, 0))
set_option maxRecDepth 100000 in
theorem partsFn_any (s : ByteArray) (w : World) : Calls Try.prog 139 #[.string s] w (PureP w (PartsFn s)) := by
  refine x_fun tt_ok Try.func139 rfl rfl [] 0 [.v (.string s)] rfl rfl rfl rfl (fun b hb => by cases hb) ?_
  refine x_vc tt_ok ?_
  refine finP (fun E w' F hs hu => ?_)
  obtain ⟨b, h1, h2⟩ := hs.boxNew (k := 0) rfl hu
  refine ⟨b, ?_, h2⟩
  simp [SV.den, tupV, ptrOf, h1]
theorem partsF_mem (s : ByteArray) {p : Part} : ∀ {n i}, 0 ≤ i → p ∈ partsF s n i → i ≤ p.pos ∧ p.pos < s.size ∧ p = partP s p.pos
  | 0, _, _, h => by cases h
  | n + 1, i, h0, h => by
    simp only [partsF] at h
    split at h
    · rename_i hi
      rcases List.mem_cons.1 h with rfl | h
      · rw [partP_pos]; exact ⟨Int.le_refl _, hi, rfl⟩
      · have hl := (partP_len s h0 hi).1
        have := partsF_mem s (n := n) (by omega) h
        exact ⟨by omega, this.2⟩
    · cases h
theorem partsV_mem {s : ByteArray} {p : Part} (h : p ∈ partsV s) : 0 ≤ p.pos ∧ p.pos < s.size ∧ 1 ≤ p.len ∧ p.pos + p.len ≤ s.size ∧ p = partP s p.pos := by
  obtain ⟨h1, h2, h3⟩ := partsF_mem s (Int.le_refl 0) h
  have := partP_len s h1 h2
  rw [← h3] at this
  exact ⟨h1, h2, this.1, this.2, h3⟩
theorem drop_get {α : Type} {L : List α} {k : Nat} {x : α} (h : L[k]? = some x) : L.drop k = x :: L.drop (k + 1) := by
  obtain ⟨hk, rfl⟩ := List.getElem?_eq_some_iff.1 h
  exact List.drop_eq_getElem_cons hk
def checkL (n : Int) : List Part → Int
  | [] => 0
  | p :: r => if p.pos + p.len = n then (if p.sp || decide (p.b ≠ 10) then 10 else 0) else checkL n r
def checkE (s : ByteArray) : Int := if 65536 < s.size then 3 else checkL s.size (partsV s)
set_option maxRecDepth 100000 in
theorem check_any (s : ByteArray) (w : World) (hs : s.size ≤ 9223372036854775807) : Calls Try.prog 138 #[.string s] w (PureP w fun v _ => v = .int .i64 (checkE s)) := by
  refine x_fun tt_ok Try.func138 rfl rfl [] 0 [.v (.string s)] rfl rfl rfl rfl (fun b hb => by cases hb) ?_
  refine x_vc tt_ok ?_
  repeat (refine And.intro ?_ ?_; first | omega | (simp <;> omega))
  refine x_if (fun h => ?_) (fun h => ?_)
  · have h := of_decide_eq_true h
    refine fin1 (fun _ _ => ?_)
    rw [checkE, if_pos (by omega)]; rfl
  · have h := of_decide_eq_false h
    have e0 : checkE s = checkL s.size (partsV s) := by rw [checkE, if_neg (by omega)]
    refine xl_call _ rfl rfl rfl rfl fn139 rfl rfl (fun E w F _ => partsFn_any s w) (fun v u1 u2 hu2 hs2 hv => ?_)
    obtain ⟨b, rfl, hb⟩ := hv
    refine xl_go tt_ok ?_
    have hb2 : u2.h b = some (.cells #[.string s] 9 (0, 0)) := by
      have h9 := hs2.h _ _ hb
      simp only [cut] at h9
      split at h9
      · cases h9
      · exact h9
    refine x_range (σ := Unit) (τ := Int) rfl fn156 (parts_iter s b u2 hb2 (by omega)) [(3, .p 1 0), (2, .v (.int .i64 0)), (1, .p 0 0), (0, .v (.string s))]
      (fun _ => [(0, .box 9 [.v (.string s)]), (1, .box 37 [.v (.int .i64 0)])]) (fun _ => 3) (fun k _ _ => checkL s.size (partsV s) = checkL s.size ((partsV s).drop k))
      (fun v => [(0, .box 9 [.v (.string s)]), (1, .box 37 [.v (.int .i64 v)])]) (fun _ => 3) (fun v e _ => e = .exit 0 ∧ checkL s.size (partsV s) = v) () [] (.of rfl rfl rfl rfl rfl rfl) rfl rfl
      (fun _ => rfl) (fun _ => rfl) (fun _ => by decide) (fun _ => by decide) rfl (fun l k x _ u3 Fr Fr' hx hu3 hg => ?_) (fun _ u3 hu3 hg => ?_) (fun _ e u3 hu3 hg => ?_)
    · rw [List.getElem?_map] at hx
      obtain ⟨p, hp, rfl⟩ := Option.map_eq_some_iff.1 hx
      obtain ⟨q0, q1, q2, q3, q4⟩ := partsV_mem (List.mem_of_getElem? hp)
      rw [drop_get hp, checkL] at hg
      refine x_vc tt_ok ?_
      refine ⟨rfl, rfl, x_vc tt_ok ?_⟩
      refine x_draw mix (by kernel_rfl) (xd_go tt_ok ?_)
      refine xd_call0 (.int .i64 (p.pos + p.len)) rfl rfl rfl rfl fn155 rfl rfl (fun _ E w F _ => end_any p w q0 (by omega) (by omega)) ?_
      refine xd_go tt_ok ?_
      refine x_if (fun h1 => ?_) (fun h1 => ?_)
      · rw [if_pos (of_decide_eq_true h1)] at hg
        refine x_if (fun h2 => ?_) (fun h2 => ?_)
        · rw [if_pos h2] at hg
          exact ⟨10, [], .of rfl rfl rfl rfl rfl rfl, rfl, hg⟩
        · rw [if_neg (by rw [h2]; simp)] at hg
          exact ⟨0, [], .of rfl rfl rfl rfl rfl rfl, rfl, hg⟩
      · rw [if_neg (of_decide_eq_false h1)] at hg
        refine ⟨(), [], .of rfl rfl rfl rfl rfl rfl, hg⟩
    · rw [List.length_map, List.drop_length, checkL] at hg
      refine fin1 (fun _ _ => ?_)
      rw [e0, hg]; rfl
    · obtain ⟨rfl, hg⟩ := hg
      refine fin1 (fun _ _ => ?_)
      rw [e0, hg]; rfl
end Go.Proofs.Ytdonomneofdhfaa
namespace Go.Proofs.Ytdonomneofdhfaa
open Go.GV Go.RowKit
structure Chr where
  b : Int
  pos : Int
  len : Int
def charY : Lay Chr := ⟨[fun c => .int .u8 c.b, fun c => .int .i64 c.pos, fun c => .int .i64 c.len], ⟨0, 0, 0⟩⟩
def chrsL : List Part → List Chr
  | [] => []
  | p :: r => if p.sp then chrsL r else ⟨p.b, p.pos, p.len⟩ :: chrsL r
theorem chrsL_append (a b : List Part) : chrsL (a ++ b) = chrsL a ++ chrsL b := by
  induction a with
  | nil => rfl
  | cons p a ih => simp only [List.cons_append, chrsL]; split <;> simp [ih]
theorem take_get {α : Type} {L : List α} {k : Nat} {x : α} (h : L[k]? = some x) : L.take (k + 1) = L.take k ++ [x] := by
  obtain ⟨hk, rfl⟩ := List.getElem?_eq_some_iff.1 h
  exact (List.take_append_getElem hk).symm
theorem chrsL_len (L : List Part) : (chrsL L).length ≤ L.length := by
  induction L with
  | nil => exact Nat.le_refl _
  | cons p a ih => simp only [chrsL]; split <;> simp <;> omega
theorem partsF_len (s : ByteArray) : ∀ n i, (partsF s n i).length ≤ n
  | 0, _ => Nat.le_refl _
  | n + 1, i => by
    simp only [partsF]
    split
    · have := partsF_len s n (i + (partP s i).len); simp; omega
    · simp
theorem partsV_len (s : ByteArray) : (partsV s).length ≤ s.size := partsF_len s _ _
def charsOf (s : ByteArray) : List Chr := if checkE s = 0 then chrsL (partsV s) else []
theorem checkE_size {s : ByteArray} (h : checkE s = 0) : s.size ≤ 65536 := by
  unfold checkE at h
  split at h
  · cases h
  · omega
theorem of_sub_cut {u1 u2 : Im} {n : Nat} (h : u1.sub (cut n u2)) {b : Nat} {o : Obj} (hb : u1.h b = some o) : u2.h b = some o := by
  have h9 := h.h _ _ hb
  simp only [cut] at h9
  split at h9
  · cases h9
  · exact h9
set_option maxRecDepth 100000 in
theorem chars_any (s : ByteArray) (w : World) (hs : s.size ≤ 9223372036854775807) : Calls Try.prog 102 #[.string s] w (PureP w (OwnT 136 (charY.d (charsOf s)) [.int .i64 (checkE s)])) := by
  refine x_fun tt_ok Try.func102 rfl rfl [] 0 [.v (.string s)] rfl rfl rfl rfl (fun b hb => by cases hb) ?_
  refine x_vc tt_ok ?_
  refine xl_call0 (.int .i64 (checkE s)) rfl rfl rfl rfl fn138 rfl rfl (fun E w F _ => check_any s w hs) ?_
  refine xl_go tt_ok ?_
  refine x_if (fun h => ?_) (fun h => ?_)
  · have h := of_decide_eq_true h
    have e1 : charsOf s = [] := by rw [charsOf, if_neg h]
    rw [e1]
    exact finO2n charY
  · have h : checkE s = 0 := by
      have h := of_decide_eq_false h
      exact Classical.not_not.1 h
    have hsz := checkE_size h
    have e1 : charsOf s = chrsL (partsV s) := by rw [charsOf, if_pos h]
    rw [e1]
    refine xl_make0 tt_ok charY 24 s.size rfl rfl rfl rfl rfl rfl rfl (by kernel_rfl) rfl rfl rfl (by omega) (by omega) ?_
    refine xl_go tt_ok ?_
    refine xl_call _ rfl rfl rfl rfl fn139 rfl rfl (fun E w F _ => partsFn_any s w) (fun v u1 u2 hu2 hs2 hv => ?_)
    obtain ⟨b, rfl, hb⟩ := hv
    have hb2 := of_sub_cut hs2 hb
    refine xl_go tt_ok ?_
    refine x_range (σ := List Chr) (τ := Empty) rfl fn156 (parts_iter s b u2 hb2 (by omega)) [(5, .p 1 0), (0, .v (.string s))]
      (fun L => [(1, .box 132 [.r 3]), (3, .row 136 (charY.d L))]) (fun _ => 4) (fun k L _ => L = chrsL ((partsV s).take k))
      (fun _ => []) (fun _ => 3) (fun _ e _ => False) [] [(3, some 0)] (.of rfl rfl rfl rfl rfl rfl) rfl rfl
      (fun _ => rfl) (fun _ => rfl) (fun _ => by decide) (fun _ => by decide) rfl (fun l k x L u3 Fr Fr' hx hu3 hg => ?_) (fun L u3 hu3 hg => ?_) (fun _ e u3 hu3 hg => hg.elim)
    · rw [List.getElem?_map] at hx
      obtain ⟨p, hp, rfl⟩ := Option.map_eq_some_iff.1 hx
      refine x_vc tt_ok ?_
      refine ⟨rfl, rfl, x_vc tt_ok ?_⟩
      have hk : k < (partsV s).length := (List.getElem?_eq_some_iff.1 hp).1
      have hpl := partsV_len s
      have hLl : L.length ≤ k := by rw [hg]; exact Nat.le_trans (chrsL_len _) (by rw [List.length_take]; omega)
      refine x_if (fun h1 => ?_) (fun h1 => ?_)
      · have h1 : p.sp = false := by simpa using h1
        have e : chrsL ((partsV s).take (k + 1)) = L ++ [⟨p.b, p.pos, p.len⟩] := by
          rw [take_get hp, chrsL_append, ← hg]; simp [chrsL, h1]
        refine xl_push tt_ok charY L ⟨p.b, p.pos, p.len⟩ 24 rfl rfl rfl rfl rfl rfl rfl rfl rfl rfl rfl rfl (by kernel_rfl) rfl rfl rfl rfl rfl (fun n hn => by cases hn; decide) rfl rfl rfl (by omega) (by omega) ?_
        refine xl_go tt_ok ?_
        exact ⟨_, [(3, some 5)], .of rfl rfl rfl rfl rfl rfl, e.symm⟩
      · have h1 : p.sp = true := by simpa using h1
        have e : chrsL ((partsV s).take (k + 1)) = L := by
          rw [take_get hp, chrsL_append, ← hg]; simp [chrsL, h1]
        exact ⟨L, [], .of rfl rfl rfl rfl rfl rfl, e.symm⟩
    · rw [List.length_map, List.take_length] at hg
      subst hg
      rw [h]
      exact finO2 rfl
end Go.Proofs.Ytdonomneofdhfaa
namespace Go.Proofs.Ytdonomneofdhfaa
open Go.GV Go.RowKit
def byteAt (s : ByteArray) (i : Int) : UInt8 := s.data.toList.getD i.toNat 0
def spellAt (s : ByteArray) (i : Int) : List UInt8 := byteAt s i :: (if parted s i = true then [92, 10] else [])
def spellUp (s : ByteArray) : Nat → List UInt8
  | 0 => []
  | k + 1 => spellUp s k ++ spellAt s k
theorem spellUp_len (s : ByteArray) : ∀ k, k ≤ (spellUp s k).length ∧ (spellUp s k).length ≤ 3 * k
  | 0 => ⟨Nat.le_refl _, Nat.le_refl _⟩
  | k + 1 => by
    obtain ⟨h1, h2⟩ := spellUp_len s k
    have h3 : 1 ≤ (spellAt s k).length ∧ (spellAt s k).length ≤ 3 := by
      unfold spellAt
      split <;> simp
    simp only [spellUp, List.length_append]
    omega
theorem spellUp_succ (s : ByteArray) {i : Int} (h : 0 ≤ i) : spellUp s (i + 1).toNat = spellUp s i.toNat ++ spellAt s i := by
  have e : (i + 1).toNat = i.toNat + 1 := by omega
  rw [e]
  simp only [spellUp]
  congr 2
  omega
def ends (s : ByteArray) : Bool := decide (s = ⟨#[]⟩) || decide (bt s ((s.size : Int) - 1) = 10)
def spellS (s : ByteArray) : ByteArray :=
  if 65536 < s.size then ⟨#[]⟩ else if ends s = false then ⟨#[]⟩ else if 65536 < (spellUp s s.size).length then ⟨#[]⟩ else ⟨(spellUp s s.size).toArray⟩
def spellE (s : ByteArray) : Int :=
  if 65536 < s.size then 3 else if ends s = false then 10 else if 65536 < (spellUp s s.size).length then 3 else 0
theorem size_empty {s : ByteArray} : s = ⟨#[]⟩ ↔ s.size = 0 := ByteArray.size_eq_zero_iff.symm
set_option maxRecDepth 100000 in
theorem spell_any (s : ByteArray) (w : World) (hs : s.size ≤ 9223372036854775807) : Calls Try.prog 47 #[.string s] w (PureP w fun v _ => v = .tuple #[.string (spellS s), .int .i64 (spellE s)]) := by
  refine x_fun tt_ok Try.func47 rfl rfl [] 0 [.v (.string s)] rfl rfl rfl rfl (fun b hb => by cases hb) ?_
  refine x_vc tt_ok ?_
  refine x_if (fun h => ?_) (fun h => ?_)
  · have h' : 65536 < (s.size : Int) := of_decide_eq_true h
    refine fin1 (fun _ _ => ?_)
    rw [show spellS s = ⟨#[]⟩ by unfold spellS; rw [if_pos (by omega)], show spellE s = 3 by unfold spellE; rw [if_pos (by omega)]]
    rfl
  have h' : ¬ 65536 < (s.size : Int) := of_decide_eq_false h
  have hn : ¬ 65536 < s.size := by omega
  have hse := @size_empty s
  repeat (refine And.intro ?_ ?_; first | omega | (simp only [Lay.d_n]; omega) | (simp only [decide_eq_true_eq, ne_eq, hse, decide_eq_false_iff_not, Bool.or_eq_false_iff, Bool.and_eq_true, Bool.or_eq_true, Bool.and_eq_false_iff, Bool.not_eq_true', Bool.not_eq_false']; omega))
  refine x_if (fun h2 => ?_) (fun h2 => ?_)
  · have h3 : (decide (s ≠ ⟨#[]⟩) && decide (bt s ((s.size : Int) - 1) ≠ 10)) = true := h2
    rw [Bool.and_eq_true, decide_eq_true_eq, decide_eq_true_eq] at h3
    have he : ends s = false := by unfold ends; rw [decide_eq_false h3.1, decide_eq_false h3.2]; rfl
    refine fin1 (fun _ _ => ?_)
    rw [show spellS s = ⟨#[]⟩ by unfold spellS; rw [if_neg hn, if_pos he], show spellE s = 10 by unfold spellE; rw [if_neg hn, if_pos he]]
    rfl
  have h3 : (decide (s ≠ ⟨#[]⟩) && decide (bt s ((s.size : Int) - 1) ≠ 10)) = false := h2
  have he : ends s = true := by
    rw [Bool.and_eq_false_iff, decide_eq_false_iff_not, decide_eq_false_iff_not, Classical.not_not, Classical.not_not] at h3
    unfold ends
    rcases h3 with h3 | h3
    · rw [decide_eq_true h3]; rfl
    · rw [decide_eq_true h3]; simp
  have hne : ¬ ends s = false := by rw [he]; simp
  by_cases h0 : s.size = 0
  · have hss : spellS s = ⟨#[]⟩ := by
      unfold spellS
      rw [if_neg hn, if_neg hne, h0, if_neg (show ¬ 65536 < (spellUp s 0).length from by simp [spellUp])]; rfl
    have hee : spellE s = 0 := by
      unfold spellE
      rw [if_neg hn, if_neg hne, h0, if_neg (show ¬ 65536 < (spellUp s 0).length from by simp [spellUp])]
    refine x_loop (σ := Unit) (fun _ => ⟨[(21, .v (.int .i64 0)), (20, .v (.int .i64 (s.size : Int))), (4, .p 0 0)], [], [(0, .box 139 [.v (.pointer none), .v (.slice none 0 0)])], 1⟩)
      (fun _ _ => True) (fun _ => 0) (fun _ => Nat.le_refl _) () [] (.of rfl rfl rfl rfl rfl rfl) trivial ?_
    rintro _ u hu _
    refine x_vc tt_ok ?_
    refine x_iff (by rw [h0]; rfl) ?_
    refine xl_callSC lenNil_sc (fun _ _ _ _ => trivial) trivial [0] rfl rfl rfl rfl fn106 rfl rfl rfl rfl rfl rfl rfl (fun _ => rfl) (fun _ u1 hu1 _ => ?_)
    refine xl_go tt_ok ?_
    refine x_iff rfl ?_
    refine xl_callSC stringNil_sc (fun _ _ _ _ => trivial) trivial [0] rfl rfl rfl rfl fn107 rfl rfl rfl rfl rfl rfl rfl (fun _ => rfl) (fun _ u2 hu2 _ => ?_)
    refine xl_go tt_ok ?_
    refine fin1 (fun _ _ => ?_)
    rw [hss, hee]; rfl
  · refine x_nilCell 0 5 byteY [.v (.pointer none)] [] rfl ?_
    refine x_loop (σ := Int × Bool × List UInt8) (fun (i, us, L) => ⟨[(21, .v (.int .i64 i)), (20, .v (.int .i64 (s.size : Int))), (4, .p 0 0), (0, .v (.string s))], [], [(0, .box 139 [bAddr us, .r 2]), (2, .row 5 (byteY.d L))], 3⟩)
      (fun (i, _, L) _ => 0 ≤ i ∧ i ≤ s.size ∧ L = spellUp s i.toNat) (fun (i, _, _) => ((s.size : Int) - i).toNat) (fun (_, _, _) => by simp only; omega) (0, false, []) [(2, some 1)] (.of rfl rfl rfl rfl rfl rfl) ⟨by omega, by omega, rfl⟩ ?_
    rintro ⟨i, us, L⟩ u hu ⟨g1, g2, g3⟩
    have hlen := spellUp_len s i.toNat
    rw [← g3] at hlen
    refine x_vc tt_ok ?_
    refine x_if (fun h4 => ?_) (fun h4 => ?_)
    · have h5 : i < s.size := of_decide_eq_true h4
      have hsu := spellUp_succ s g1
      rw [← g3] at hsu
      repeat (refine And.intro ?_ ?_; first | omega | (simp only [Lay.d_n]; omega) | (simp only [decide_eq_true_eq, decide_eq_false_iff_not, Bool.or_eq_false_iff, Bool.and_eq_true, Bool.or_eq_true, Bool.and_eq_false_iff, Bool.not_eq_true', Bool.not_eq_false']; omega))
      refine xl_callSC (writeByte_sc us L (byteAt s i) (by omega)) (fun _ _ _ _ => trivial) trivial [0, 2] rfl rfl rfl rfl fn103 rfl rfl rfl rfl rfl (by cases us <;> rfl) (by cases us <;> rfl) (fun _ => rfl) (fun _ u1 hu1 _ => ?_)
      refine xl_go tt_ok ?_
      refine xl_call0 (.bool (parted s i)) rfl rfl rfl rfl fn104 rfl rfl (fun E w F hs => parted_any s i w g1 h5 (by omega)) ?_
      refine xl_go tt_ok ?_
      refine x_if (fun h6 => ?_) (fun h6 => ?_)
      · have e : spellUp s (i + 1).toNat = (L ++ [byteAt s i]) ++ [92, 10] := by
          rw [hsu, spellAt, if_pos h6]; simp
        refine xl_callSC (writeString_sc true (L ++ [byteAt s i]) ⟨#[92, 10]⟩ (by rw [List.length_append]; show L.length + 1 + 2 ≤ _; omega)) (fun _ _ _ _ => trivial) trivial [0, 3] rfl rfl rfl rfl fn105 rfl rfl rfl rfl rfl rfl rfl (fun _ => rfl) (fun _ u2 hu2 _ => ?_)
        refine xl_go tt_ok ?_
        repeat (refine And.intro ?_ ?_; first | omega | (simp only [Lay.d_n]; omega) | (simp only [decide_eq_true_eq, decide_eq_false_iff_not, Bool.or_eq_false_iff, Bool.and_eq_true, Bool.or_eq_true, Bool.and_eq_false_iff, Bool.not_eq_true', Bool.not_eq_false']; omega))
        exact again (i + 1, true, _) [(2, some 4)] (.of rfl rfl rfl rfl rfl rfl) ⟨by omega, by omega, e.symm⟩ (by simp only; omega)
      · have e : spellUp s (i + 1).toNat = L ++ [byteAt s i] := by
          rw [hsu, spellAt, if_neg (by rw [h6]; simp)]
        repeat (refine And.intro ?_ ?_; first | omega | (simp only [Lay.d_n]; omega) | (simp only [decide_eq_true_eq, decide_eq_false_iff_not, Bool.or_eq_false_iff, Bool.and_eq_true, Bool.or_eq_true, Bool.and_eq_false_iff, Bool.not_eq_true', Bool.not_eq_false']; omega))
        exact again (i + 1, true, _) [(2, some 3)] (.of rfl rfl rfl rfl rfl rfl) ⟨by omega, by omega, e.symm⟩ (by simp only; omega)
    · have h5 : ¬ i < s.size := of_decide_eq_false h4
      have hi : i.toNat = s.size := by omega
      rw [hi] at g3 hlen
      have hL : L ≠ [] := fun h => h0 (Nat.le_zero.1 (by have := hlen.1; rw [h] at this; exact this))
      refine xl_callSC (len_sc us L) (fun _ _ _ _ => trivial) trivial [0, 2] rfl rfl rfl rfl fn106 rfl rfl rfl rfl rfl (by cases us <;> rfl) (by cases us <;> rfl) (fun _ => by cases us <;> rfl) (fun _ u1 hu1 _ => ?_)
      refine xl_go tt_ok ?_
      refine x_if (fun h6 => ?_) (fun h6 => ?_)
      · have h7 : 65536 < (L.length : Int) := of_decide_eq_true h6
        refine fin1 (fun _ _ => ?_)
        rw [show spellS s = ⟨#[]⟩ by unfold spellS; rw [if_neg hn, if_neg hne, ← g3, if_pos (by omega)], show spellE s = 3 by unfold spellE; rw [if_neg hn, if_neg hne, ← g3, if_pos (by omega)]]
        rfl
      · have h7 : ¬ 65536 < (L.length : Int) := of_decide_eq_false h6
        refine xl_callSC (string_sc us L hL) (fun _ _ _ _ => trivial) trivial [0, 2] rfl rfl rfl rfl fn107 rfl rfl rfl rfl rfl (by cases us <;> rfl) (by cases us <;> rfl) (fun _ => rfl) (fun _ u2 hu2 _ => ?_)
        refine xl_go tt_ok ?_
        refine fin1 (fun _ _ => ?_)
        rw [show spellS s = ⟨L.toArray⟩ by unfold spellS; rw [if_neg hn, if_neg hne, ← g3, if_neg (by omega)], show spellE s = 0 by unfold spellE; rw [if_neg hn, if_neg hne, ← g3, if_neg (by omega)]]
        rfl
end Go.Proofs.Ytdonomneofdhfaa
namespace Go.Proofs.Ytdonomneofdhfaa
open Go.GV Go.RowKit
structure Spn where
  pos : Int
  fin : Int
def spnsL : List Part → List Spn
  | [] => []
  | p :: r => if p.sp then ⟨p.pos, p.pos + p.len⟩ :: spnsL r else spnsL r
def splicesOf (s : ByteArray) : List Spn := if checkE s = 0 then spnsL (partsV s) else []
def bytesL : List Part → List UInt8
  | [] => []
  | p :: r => if p.sp then bytesL r else UInt8.ofNat p.b.toNat :: bytesL r
theorem u8_back {b : Int} (h0 : 0 ≤ b) (h1 : b ≤ 255) : ((UInt8.ofNat b.toNat).toNat : Int) = b := by
  rw [UInt8.toNat_ofNat']
  have : b.toNat % 2 ^ 8 = b.toNat := Nat.mod_eq_of_lt (by omega)
  rw [this]; omega
def logicalOf (s : ByteArray) : ByteArray := if checkE s = 0 then ⟨(bytesL (partsV s)).toArray⟩ else ⟨#[]⟩
theorem bt_left {a b : ByteArray} {i : Int} (h0 : 0 ≤ i) (h : i < a.size) : bt (a ++ b) i = bt a i := by
  unfold bt
  have hl : a.data.toList.length = a.size := by simp
  rw [ByteArray.data_append, Array.toList_append, List.getD_eq_getElem?_getD, List.getD_eq_getElem?_getD, List.getElem?_append_left (by omega)]
theorem partsF_fuel (s : ByteArray) : ∀ (n m : Nat) (i : Int), 0 ≤ i → s.size - i ≤ n → s.size - i ≤ m → partsF s n i = partsF s m i
  | 0, m, i, _, h1, _ => by rw [partsF_end s (n := m) (by omega)]; rfl
  | n + 1, 0, i, _, _, h2 => by rw [partsF_end s (by omega)]; rfl
  | n + 1, m + 1, i, h0, h1, h2 => by
    simp only [partsF]
    split
    · rename_i h
      have := partP_len s h0 h
      rw [partsF_fuel s n m _ (by omega) (by omega) (by omega)]
    · rfl
def partsAt (s : ByteArray) (i : Int) : List Part := partsF s s.size i
theorem partsAt_eq {s : ByteArray} {i : Int} (h0 : 0 ≤ i) (h : i < s.size) : partsAt s i = partP s i :: partsAt s (i + (partP s i).len) := by
  have hl := partP_len s h0 h
  obtain ⟨m, e1, e2⟩ := partsF_step s h (n := s.size) (by omega) h0
  unfold partsAt
  rw [e1, partsF_fuel s m s.size _ (by omega) e2 (by omega)]
theorem partsAt_end {s : ByteArray} {i : Int} (h : ¬ i < s.size) : partsAt s i = [] := partsF_end s h
theorem isThird92 : isThird 92 = false := by decide
theorem spl_false_of {s : ByteArray} {i : Int} (h : chB s i = 92 → i + chN s i < s.size → bt s (i + chN s i) = 10 → False) : spl s i = false := by
  unfold spl
  cases hb : (decide (chB s i = 92) && decide (i + chN s i < s.size) && decide (bt s (i + chN s i) = 10))
  · rfl
  · rw [Bool.and_eq_true, Bool.and_eq_true, decide_eq_true_eq, decide_eq_true_eq, decide_eq_true_eq] at hb
    exact (h hb.1.1 hb.1.2 hb.2).elim
theorem checkE_of {s : ByteArray} (h : s.size ≤ 65536) : checkE s = checkL s.size (partsV s) := by rw [checkE, if_neg (by omega)]
theorem ltB {s : ByteArray} {i : Int} (h : triB s i = true) : i + 2 < s.size ∧ bt s i = 63 ∧ bt s (i + 1) = 63 ∧ isThird (bt s (i + 2)) = true := by
  unfold triB at h
  simp only [Bool.and_eq_true, decide_eq_true_eq] at h
  exact ⟨h.1.1.1, h.1.1.2, h.1.2, h.2⟩
def tailF (l : ByteArray) : Nat → Nat → List UInt8
  | 0, _ => []
  | n + 1, k => spellAt l k ++ tailF l n (k + 1)
theorem spellUp_add (l : ByteArray) : ∀ n k : Nat, spellUp l (k + n) = spellUp l k ++ tailF l n k
  | 0, k => by simp [tailF]
  | n + 1, k => by
    rw [show k + (n + 1) = (k + 1) + n by omega, spellUp_add l n (k + 1)]
    simp only [spellUp, tailF, List.append_assoc]
def spelt (l : ByteArray) : ByteArray := ⟨(spellUp l l.size).toArray⟩
def posOf (l : ByteArray) (k : Nat) : Nat := (spellUp l k).length
theorem spelt_size (l : ByteArray) : (spelt l).size = posOf l l.size := by
  show ((spellUp l l.size).toArray).size = _
  rw [List.size_toArray]; rfl
theorem bt_spelt (l : ByteArray) {k : Nat} (hk : k ≤ l.size) (j : Nat) : bt (spelt l) ((posOf l k : Int) + j) = (((tailF l (l.size - k) k).getD j 0).toNat : Int) := by
  unfold bt
  have e : spellUp l l.size = spellUp l k ++ tailF l (l.size - k) k := by rw [← spellUp_add]; congr 1; omega
  have hn : ((posOf l k : Int) + j).toNat = posOf l k + j := by omega
  rw [hn]
  show ((((spellUp l l.size).toArray.toList).getD _ _).toNat : Int) = _
  rw [List.toList_toArray, e, List.getD_eq_getElem?_getD, List.getD_eq_getElem?_getD, List.getElem?_append_right (by unfold posOf; omega)]
  rw [show posOf l k + j - (spellUp l k).length = j by unfold posOf; omega]
theorem tail_step (l : ByteArray) {k : Nat} (hk : k < l.size) : tailF l (l.size - k) k = spellAt l k ++ tailF l (l.size - (k + 1)) (k + 1) := by
  rw [show l.size - k = (l.size - (k + 1)) + 1 by omega]; rfl
theorem byteAt_bt (l : ByteArray) (i : Int) : ((byteAt l i).toNat : Int) = bt l i := rfl
theorem posOf_succ (l : ByteArray) (k : Nat) : posOf l (k + 1) = posOf l k + (if parted l k = true then 3 else 1) := by
  unfold posOf
  simp only [spellUp, List.length_append, spellAt]
  split <;> simp
theorem sp_at0 (l : ByteArray) {k : Nat} (hk : k < l.size) : bt (spelt l) (posOf l k) = bt l k := by
  have := bt_spelt l (k := k) (by omega) 0
  rw [tail_step l hk, spellAt] at this
  simpa [byteAt_bt] using this
theorem sp_at1 (l : ByteArray) {k : Nat} (hk : k < l.size) (hp : parted l k = true) : bt (spelt l) (posOf l k + 1) = 92 ∧ bt (spelt l) (posOf l k + 2) = 10 := by
  have h1 := bt_spelt l (k := k) (by omega) 1
  have h2 := bt_spelt l (k := k) (by omega) 2
  rw [tail_step l hk, spellAt, if_pos hp] at h1 h2
  exact ⟨h1, h2⟩
theorem posOf_lt (l : ByteArray) {k : Nat} (hk : k < l.size) : posOf l k < (spelt l).size := by
  rw [spelt_size]
  have : ∀ n, posOf l k ≤ posOf l (k + n) := fun n => by
    induction n with
    | zero => exact Nat.le_refl _
    | succ n ih => rw [← Nat.add_assoc, posOf_succ]; split <;> omega
  have h2 := this (l.size - (k + 1))
  have h3 := posOf_succ l (k + (l.size - (k + 1)))
  rw [show k + (l.size - (k + 1)) + 1 = l.size by omega] at h3
  split at h3 <;> omega
theorem posOf_le (l : ByteArray) {k : Nat} (hk : k ≤ l.size) : posOf l k ≤ (spelt l).size := by
  rcases Nat.lt_or_ge k l.size with h | h
  · exact Nat.le_of_lt (posOf_lt l h)
  · rw [show k = l.size by omega, spelt_size]; exact Nat.le_refl _
theorem parted_tri {l : ByteArray} {k : Int} (h : isTri l k = true) : parted l k = true := by unfold parted; rw [h]; simp
theorem parted_bs {l : ByteArray} {k : Int} (h0 : k + 1 < l.size) (h1 : bt l k = 92) (h2 : bt l (k + 1) = 10) : parted l k = true := by
  unfold parted; rw [decide_eq_true h0, decide_eq_true h1, decide_eq_true h2]; rfl
theorem sp_char (l : ByteArray) {k : Nat} (hk : k < l.size) : partP (spelt l) (posOf l k) = ⟨bt l k, posOf l k, 1, false⟩ := by
  have e0 := sp_at0 l hk
  have hs := posOf_succ l k
  have ht : triB (spelt l) (posOf l k) = false := by
    cases ht : triB (spelt l) (posOf l k)
    · rfl
    · exfalso
      obtain ⟨t1, t2, t3, t4⟩ := ltB ht
      cases hp : parted l k
      · rw [hp, if_neg (by simp)] at hs
        have hk1 : k + 1 < l.size := by
          rcases Nat.lt_or_ge (k + 1) l.size with h | h
          · exact h
          · have := spelt_size l; rw [show l.size = k + 1 by omega] at this; omega
        have e1 := sp_at0 l hk1
        rw [hs] at e1
        rw [show ((posOf l k + 1 : Nat) : Int) = (posOf l k : Int) + 1 by omega, t3] at e1
        cases hp1 : parted l ((k + 1 : Nat) : Int)
        · have hs1 := posOf_succ l (k + 1)
          rw [hp1, if_neg (by simp)] at hs1
          have hk2 : k + 2 < l.size := by
            rcases Nat.lt_or_ge (k + 2) l.size with h | h
            · exact h
            · have := spelt_size l; rw [show l.size = k + 1 + 1 by omega] at this; omega
          have e2 := sp_at0 l hk2
          rw [show posOf l (k + 2) = posOf l k + 2 by rw [show k + 2 = k + 1 + 1 by omega]; omega] at e2
          rw [show ((posOf l k + 2 : Nat) : Int) = (posOf l k : Int) + 2 by omega] at e2
          have : isTri l k = true := by
            unfold isTri
            rw [decide_eq_true (show (k : Int) + 3 ≤ l.size by omega), ← e0, t2, show (k : Int) + 1 = ((k + 1 : Nat) : Int) by omega, ← e1, show (k : Int) + 2 = ((k + 2 : Nat) : Int) by omega, ← e2, t4]; rfl
          rw [parted_tri this] at hp; cases hp
        · have := (sp_at1 l hk1 hp1).1
          rw [hs, show (((posOf l k + 1 : Nat) : Int) + 1) = (posOf l k : Int) + 2 by omega] at this
          rw [this, isThird92] at t4; cases t4
      · have := (sp_at1 l hk hp).1
        rw [this] at t3; cases t3
  have hN : chN (spelt l) (posOf l k) = 1 := by rw [chN, if_neg (by rw [ht]; simp)]
  have hB : chB (spelt l) (posOf l k) = bt l k := by rw [chB, if_neg (by rw [ht]; simp), e0]
  have hS : spl (spelt l) (posOf l k) = false := by
    refine spl_false_of fun h1 h2 h3 => ?_
    rw [hB] at h1
    rw [hN] at h2 h3
    cases hp : parted l k
    · rw [hp, if_neg (by simp)] at hs
      have hk1 : k + 1 < l.size := by
        rcases Nat.lt_or_ge (k + 1) l.size with h | h
        · exact h
        · have := spelt_size l; rw [show l.size = k + 1 by omega] at this; omega
      have e1 := sp_at0 l hk1
      rw [hs, show ((posOf l k + 1 : Nat) : Int) = (posOf l k : Int) + 1 by omega, h3] at e1
      rw [parted_bs (l := l) (k := k) (by omega) h1 (by rw [show (k : Int) + 1 = ((k + 1 : Nat) : Int) by omega]; exact e1.symm)] at hp; cases hp
    · rw [(sp_at1 l hk hp).1] at h3; cases h3
  rw [partP, if_neg (by rw [hS]; simp), hB, hN]
theorem sp_splice (l : ByteArray) {k : Nat} (hk : k < l.size) (hp : parted l k = true) : partP (spelt l) ((posOf l k : Int) + 1) = ⟨0, (posOf l k : Int) + 1, 2, true⟩ := by
  obtain ⟨e1, e2⟩ := sp_at1 l hk hp
  have hs := posOf_succ l k
  rw [hp, if_pos rfl] at hs
  have hle := posOf_le l (k := k + 1) (by omega)
  have ht : triB (spelt l) ((posOf l k : Int) + 1) = false := by unfold triB; rw [e1]; simp
  have hN : chN (spelt l) ((posOf l k : Int) + 1) = 1 := by rw [chN, if_neg (by rw [ht]; simp)]
  have hS : spl (spelt l) ((posOf l k : Int) + 1) = true := by
    unfold spl
    rw [hN, chB, if_neg (by rw [ht]; simp), e1, show (posOf l k : Int) + 1 + 1 = (posOf l k : Int) + 2 by omega, e2, decide_eq_true (show (posOf l k : Int) + 2 < (spelt l).size by omega)]; rfl
  rw [partP, if_pos hS, hN]; rfl
theorem sp_parts (l : ByteArray) {k : Nat} (hk : k < l.size) :
    partsAt (spelt l) (posOf l k) = ⟨bt l k, posOf l k, 1, false⟩ :: (if parted l k = true then [⟨0, (posOf l k : Int) + 1, 2, true⟩] else []) ++ partsAt (spelt l) (posOf l (k + 1)) := by
  have hlt := posOf_lt l hk
  have hs := posOf_succ l k
  rw [partsAt_eq (by omega) (by omega), sp_char l hk]
  show _ :: partsAt (spelt l) ((posOf l k : Int) + 1) = _
  by_cases hp : parted l k = true
  · rw [if_pos hp] at hs
    have hle := posOf_le l (k := k + 1) (by omega)
    rw [if_pos hp, partsAt_eq (by omega) (by omega), sp_splice l hk hp, hs]
    show _ :: _ :: partsAt (spelt l) ((posOf l k : Int) + 1 + 2) = _
    rw [show (posOf l k : Int) + 1 + 2 = ((posOf l k + 3 : Nat) : Int) by omega]; rfl
  · rw [if_neg hp] at hs
    rw [if_neg hp, hs, show ((posOf l k + 1 : Nat) : Int) = (posOf l k : Int) + 1 by omega]; rfl
theorem sp_all (l : ByteArray) (hnl : l.size ≠ 0 → bt l ((l.size : Int) - 1) = 10) : ∀ (n k : Nat), l.size - k = n → k ≤ l.size →
    bytesL (partsAt (spelt l) (posOf l k)) = l.data.toList.drop k ∧ (spelt l).size - posOf l k = (l.size - k) + 2 * (spnsL (partsAt (spelt l) (posOf l k))).length ∧ checkL (spelt l).size (partsAt (spelt l) (posOf l k)) = 0
  | 0, k, hn, hk => by
    have hk' : k = l.size := by omega
    subst hk'
    have hl : l.data.toList.length = l.size := by simp
    rw [partsAt_end (by rw [spelt_size]; omega), List.drop_eq_nil_of_le (by omega), spelt_size]
    refine ⟨rfl, ?_, rfl⟩
    simp [spnsL]
  | n + 1, k, hn, hk => by
    have hk' : k < l.size := by omega
    obtain ⟨h1, h2, h3⟩ := sp_all l hnl n (k + 1) (by omega) (by omega)
    have hs := posOf_succ l k
    have hle := posOf_le l (k := k + 1) (by omega)
    have hl : l.data.toList.length = l.size := by simp
    have hd : l.data.toList.drop k = byteAt l k :: l.data.toList.drop (k + 1) := by
      rw [List.drop_eq_getElem_cons (by omega)]
      congr 1
      unfold byteAt
      rw [List.getD_eq_getElem?_getD, show ((k : Int)).toNat = k by omega, List.getElem?_eq_getElem (by omega)]; rfl
    have hb : UInt8.ofNat (bt l k).toNat = byteAt l k := by
      rw [← byteAt_bt]; simp
    rw [sp_parts l hk', hd]
    have hlast : k + 1 = l.size → bt l k = 10 ∧ ¬ parted l k = true := fun h => by
      have e := hnl (by omega)
      rw [show (l.size : Int) - 1 = k by omega] at e
      refine ⟨e, fun hp => ?_⟩
      unfold parted isTri at hp
      rw [decide_eq_false (show ¬ (k : Int) + 1 < l.size by omega), decide_eq_false (show ¬ (k : Int) + 3 ≤ l.size by omega)] at hp
      cases hp
    have hend : posOf l (k + 1) = (spelt l).size → k + 1 = l.size := fun h => by
      rcases Nat.lt_or_ge (k + 1) l.size with h' | h'
      · have := posOf_lt l h'; omega
      · omega
    by_cases hp : parted l k = true
    · rw [if_pos hp] at hs
      rw [if_pos hp]
      simp only [List.cons_append, List.nil_append, bytesL, spnsL, checkL, List.length_cons]
      refine ⟨?_, ?_, ?_⟩
      · rw [if_neg (by simp), if_pos trivial, hb, h1]
      · rw [if_neg (by simp), if_pos trivial, List.length_cons]; omega
      · rw [if_neg (by omega), if_neg (fun h => (hlast (hend (by omega))).2 hp), h3]
    · rw [if_neg hp] at hs
      rw [if_neg hp]
      simp only [List.cons_append, List.nil_append, bytesL, spnsL, checkL]
      refine ⟨?_, ?_, ?_⟩
      · rw [if_neg (by simp), hb, h1]
      · rw [if_neg (by simp)]; omega
      · by_cases he : (posOf l k : Int) + 1 = (spelt l).size
        · rw [if_pos he, (hlast (hend (by omega))).1]; rfl
        · rw [if_neg he, h3]
theorem spell_law (l : ByteArray) (h : spellE l = 0) : checkE (spellS l) = 0 ∧ logicalOf (spellS l) = l ∧ ((spellS l).size : Int) = l.size + 2 * (splicesOf (spellS l)).length := by
  have h' := h
  unfold spellE at h'
  split at h'
  · cases h'
  · rename_i k1
    split at h'
    · cases h'
    · rename_i k2
      split at h'
      · cases h'
      · rename_i k3
        have es : spellS l = spelt l := by unfold spellS; rw [if_neg k1, if_neg k2, if_neg k3]; rfl
        have hnl : l.size ≠ 0 → bt l ((l.size : Int) - 1) = 10 := fun h0 => by
          unfold ends at k2
          rw [decide_eq_false (fun e => h0 (size_empty.1 e))] at k2
          simpa using k2
        obtain ⟨p1, p2, p3⟩ := sp_all l hnl l.size 0 rfl (by omega)
        have ez := spelt_size l
        have hz : (spelt l).size ≤ 65536 := by rw [ez]; unfold posOf; omega
        have e0 : partsAt (spelt l) (posOf l 0) = partsV (spelt l) := rfl
        rw [e0] at p1 p2 p3
        have hc : checkE (spelt l) = 0 := by rw [checkE_of hz]; exact p3
        rw [es]
        refine ⟨hc, ?_, ?_⟩
        · rw [logicalOf, if_pos hc, p1]; simp
        · rw [splicesOf, if_pos hc]
          have : posOf l 0 = 0 := rfl
          omega
end Go.Proofs.Ytdonomneofdhfaa
namespace Go.Proofs.Ytdonomneofdhfaa
open Go.GV Go.RowKit
def bl (s : ByteArray) : Lx.Bs := s.data.toList.map fun b => (b.toNat : Int)
def tl (s : ByteArray) (i : Int) : Lx.Bs := (bl s).drop i.toNat
theorem bl_len (s : ByteArray) : (bl s).length = s.size := by rw [bl, List.length_map, Array.length_toList]; rfl
theorem tl_len (s : ByteArray) (i : Int) : (tl s i).length = s.size - i.toNat := by rw [tl, List.length_drop, bl_len]
theorem bl_get (s : ByteArray) {n : Nat} (h : n < s.size) : (bl s)[n]? = some (bt s n) := by
  unfold bl bt
  have h' : n < s.data.toList.length := by rw [Array.length_toList]; exact h
  simp only [List.getElem?_map, List.getD_eq_getElem?_getD, Int.toNat_natCast, List.getElem?_eq_getElem h', Option.map_some, Option.getD_some]
theorem tl_cons {s : ByteArray} {i : Int} (h0 : 0 ≤ i) (h : i < s.size) : tl s i = bt s i :: tl s (i + 1) := by
  have hl : i.toNat < (bl s).length := by rw [bl_len]; omega
  unfold tl
  rw [List.drop_eq_getElem_cons hl, show (i + 1).toNat = i.toNat + 1 by omega]
  have h2 := bl_get s (n := i.toNat) (by omega)
  rw [List.getElem?_eq_getElem hl] at h2
  rw [Option.some.inj h2]
  rfl
theorem tl_nil {s : ByteArray} {i : Int} (h : s.size ≤ i) : tl s i = [] := List.drop_eq_nil_of_le (by rw [bl_len]; omega)
theorem tl_zero (s : ByteArray) : tl s 0 = bl s := rfl
theorem white_any (c : Int) (w : World) : Calls Try.prog 131 #[.int .u8 c] w (PureP w fun v _ => v = .bool (Lx.white c)) := by
  refine x_fun tt_ok Try.func131 rfl rfl [] 0 [.v (.int .u8 c)] rfl rfl rfl rfl (fun b hb => by cases hb) ?_
  refine x_vc tt_ok ?_
  exact fin1 (fun _ _ => rfl)
theorem letter_any (c : Int) (w : World) : Calls Try.prog 178 #[.int .u8 c] w (PureP w fun v _ => v = .bool (Lx.letter c)) := by
  refine x_fun tt_ok Try.func178 rfl rfl [] 0 [.v (.int .u8 c)] rfl rfl rfl rfl (fun b hb => by cases hb) ?_
  refine x_vc tt_ok ?_
  exact fin1 (fun _ _ => rfl)
theorem digit_any (c : Int) (w : World) : Calls Try.prog 179 #[.int .u8 c] w (PureP w fun v _ => v = .bool (Lx.digit c)) := by
  refine x_fun tt_ok Try.func179 rfl rfl [] 0 [.v (.int .u8 c)] rfl rfl rfl rfl (fun b hb => by cases hb) ?_
  refine x_vc tt_ok ?_
  exact fin1 (fun _ _ => rfl)
theorem hdrGo_pos (q : Int) (c : Int) (r : Lx.Bs) : Lx.hdrGo q (c :: r) = if c = 10 then 0 else if c = q then 1 else if Lx.hdrGo q r = 0 then 0 else Lx.hdrGo q r + 1 := by
  simp only [Lx.hdrGo]
  by_cases h1 : c = 10
  · simp [h1]
  · by_cases h2 : c = q
    · subst h2; simp [h1]
    · simp only [h1, h2, decide_false, if_false]
      cases Lx.hdrGo q r <;> simp
def atE (k : Int) (n : Nat) : Int := if n = 0 then 0 else k + n
theorem atE_one (k : Int) : atE k 1 = k + 1 := rfl
theorem atE_up (k : Int) (n : Nat) : atE k (if n = 0 then 0 else n + 1) = atE (k + 1) n := by
  unfold atE
  by_cases h : n = 0
  · simp [h]
  · simp [h]; omega
def hdrE (s : ByteArray) (i : Int) : Int := atE i (Lx.hdrN (tl s i))
theorem hdrE_eq {s : ByteArray} {i : Int} (h0 : 0 ≤ i) (h1 : i < s.size) : hdrE s i =
    if bt s i = 60 then atE (i + 1) (Lx.hdrGo 62 (tl s (i + 1)))
    else if bt s i = 34 then atE (i + 1) (Lx.hdrGo 34 (tl s (i + 1))) else 0 := by
  have e : ∀ n : Nat, atE i (match n with | 0 => 0 | n + 1 => n + 2 : Nat) = atE (i + 1) n := by
    intro n
    rw [← atE_up]; congr 1
    cases n <;> simp
  unfold hdrE
  rw [tl_cons h0 h1]
  simp only [Lx.hdrN]
  split
  · exact e _
  · split
    · exact e _
    · rfl
set_option maxRecDepth 100000 in
theorem hdr_any (s : ByteArray) (i : Int) (h0 : 0 ≤ i) (h1 : i < s.size) (hz : s.size ≤ 140737488355328) (w : World) :
    Calls Try.prog 150 #[.string s, .int .i64 i] w (PureP w fun v _ => v = .int .i64 (hdrE s i)) := by
  refine x_fun tt_ok Try.func150 rfl rfl [] 0 [.v (.string s), .v (.int .i64 i)] rfl rfl rfl rfl (fun b hb => by cases hb) ?_
  refine x_seq ?_
  refine x_vc tt_ok ?_
  refine x_seq ?_
  refine x_vc tt_ok ?_
  repeat (refine And.intro ?_ ?_; first | omega | (simp only [Lay.d_n]; omega) | (simp only [decide_eq_true_eq, decide_eq_false_iff_not, Bool.or_eq_false_iff, Bool.and_eq_true, Bool.or_eq_true, Bool.and_eq_false_iff, Bool.not_eq_true', Bool.not_eq_false', Lay.d_n]; omega) | (simp only [decide_eq_true_eq, decide_eq_false_iff_not, Bool.or_eq_false_iff, Bool.and_eq_true, Bool.or_eq_true, Bool.and_eq_false_iff, Bool.not_eq_true', Bool.not_eq_false']; omega))
  have hE := hdrE_eq h0 h1
  refine x_cut (σ := Int) (fun q => ⟨[(5, .v (.int .u8 q)), (1, .v (.int .i64 i)), (0, .v (.string s))], [], [], 0⟩)
    (fun q _ => hdrE s i = atE (i + 1) (Lx.hdrGo q (tl s (i + 1)))) (fun _ => Nat.le_refl _) ?_ ?_
  · refine x_vc tt_ok ?_
    refine x_if (fun h => ?_) (fun h => ?_)
    · rw [if_pos (of_decide_eq_true h)] at hE
      exact meet 62 [] (.of rfl rfl rfl rfl rfl rfl) hE
    · rw [if_neg (of_decide_eq_false h)] at hE
      refine x_if (fun h => ?_) (fun h => ?_)
      · have h34 := of_decide_eq_true h
        rw [if_pos h34, ← h34] at hE
        exact meet (bt s i) [] (.of rfl rfl rfl rfl rfl rfl) hE
      · rw [if_neg (of_decide_eq_false h)] at hE
        rw [hE]
        exact fin1 (fun _ _ => rfl)
  · rintro q u hu g
    clear hE
    refine x_vc tt_ok ?_
    repeat (refine And.intro ?_ ?_; first | omega | (simp only [Lay.d_n]; omega) | (simp only [decide_eq_true_eq, decide_eq_false_iff_not, Bool.or_eq_false_iff, Bool.and_eq_true, Bool.or_eq_true, Bool.and_eq_false_iff, Bool.not_eq_true', Bool.not_eq_false', Lay.d_n]; omega) | (simp only [decide_eq_true_eq, decide_eq_false_iff_not, Bool.or_eq_false_iff, Bool.and_eq_true, Bool.or_eq_true, Bool.and_eq_false_iff, Bool.not_eq_true', Bool.not_eq_false']; omega))
    refine x_loop (σ := Int) (fun k => ⟨[(6, .v (.int .i64 k)), (5, .v (.int .u8 q)), (0, .v (.string s))], [], [], 0⟩)
      (fun k _ => 0 ≤ k ∧ k ≤ s.size ∧ hdrE s i = atE k (Lx.hdrGo q (tl s k))) (fun k => (s.size - k).toNat) (fun _ => Nat.le_refl _) (i + 1) [] (.of rfl rfl rfl rfl rfl rfl)
      ⟨by omega, by omega, g⟩ ?_
    rintro k u2 hu2 ⟨g1, g2, g3⟩
    refine x_vc tt_ok ?_
    repeat (refine And.intro ?_ ?_; first | omega | (simp only [Lay.d_n]; omega) | (simp only [decide_eq_true_eq, decide_eq_false_iff_not, Bool.or_eq_false_iff, Bool.and_eq_true, Bool.or_eq_true, Bool.and_eq_false_iff, Bool.not_eq_true', Bool.not_eq_false', Lay.d_n]; omega) | (simp only [decide_eq_true_eq, decide_eq_false_iff_not, Bool.or_eq_false_iff, Bool.and_eq_true, Bool.or_eq_true, Bool.and_eq_false_iff, Bool.not_eq_true', Bool.not_eq_false']; omega))
    refine x_if (fun h => ?_) (fun h => ?_)
    · obtain ⟨ha, hb⟩ := Bool.and_eq_true_iff.1 h
      have h2 : k < s.size := of_decide_eq_true ha
      have h3 : ¬ bt s k = 10 := of_decide_eq_true hb
      rw [tl_cons g1 h2, hdrGo_pos, if_neg h3] at g3
      repeat (refine And.intro ?_ ?_; first | omega | (simp only [Lay.d_n]; omega) | (simp only [decide_eq_true_eq, decide_eq_false_iff_not, Bool.or_eq_false_iff, Bool.and_eq_true, Bool.or_eq_true, Bool.and_eq_false_iff, Bool.not_eq_true', Bool.not_eq_false', Lay.d_n]; omega) | (simp only [decide_eq_true_eq, decide_eq_false_iff_not, Bool.or_eq_false_iff, Bool.and_eq_true, Bool.or_eq_true, Bool.and_eq_false_iff, Bool.not_eq_true', Bool.not_eq_false']; omega))
      refine x_if (fun h5 => ?_) (fun h5 => ?_)
      · rw [if_pos (of_decide_eq_true h5)] at g3
        repeat (refine And.intro ?_ ?_; first | omega | (simp only [Lay.d_n]; omega) | (simp only [decide_eq_true_eq, decide_eq_false_iff_not, Bool.or_eq_false_iff, Bool.and_eq_true, Bool.or_eq_true, Bool.and_eq_false_iff, Bool.not_eq_true', Bool.not_eq_false', Lay.d_n]; omega) | (simp only [decide_eq_true_eq, decide_eq_false_iff_not, Bool.or_eq_false_iff, Bool.and_eq_true, Bool.or_eq_true, Bool.and_eq_false_iff, Bool.not_eq_true', Bool.not_eq_false']; omega))
        rw [g3]
        exact fin1 (fun _ _ => rfl)
      · repeat (refine And.intro ?_ ?_; first | omega | (simp only [Lay.d_n]; omega) | (simp only [decide_eq_true_eq, decide_eq_false_iff_not, Bool.or_eq_false_iff, Bool.and_eq_true, Bool.or_eq_true, Bool.and_eq_false_iff, Bool.not_eq_true', Bool.not_eq_false', Lay.d_n]; omega) | (simp only [decide_eq_true_eq, decide_eq_false_iff_not, Bool.or_eq_false_iff, Bool.and_eq_true, Bool.or_eq_true, Bool.and_eq_false_iff, Bool.not_eq_true', Bool.not_eq_false']; omega))
        rw [if_neg (of_decide_eq_false h5), atE_up] at g3
        exact again (k + 1) [] (.of rfl rfl rfl rfl rfl rfl) ⟨by omega, by omega, g3⟩ (by omega)
    · have g4 : hdrE s i = 0 := by
        rw [g3]
        by_cases h2 : k < s.size
        · have hb : bt s k = 10 := by
            have h3 : decide (bt s k ≠ 10) = false := by
              have ha : decide (k < (s.size : Int)) = true := decide_eq_true h2
              have h' : (decide (k < (s.size : Int)) && decide (bt s k ≠ 10)) = false := h
              rw [ha, Bool.true_and] at h'; exact h'
            exact Classical.not_not.1 (of_decide_eq_false h3)
          rw [tl_cons g1 h2, hdrGo_pos, if_pos hb]; rfl
        · rw [tl_nil (by omega)]; rfl
      rw [g4]
      exact fin1 (fun _ _ => rfl)
end Go.Proofs.Ytdonomneofdhfaa
namespace Go.Proofs.Ytdonomneofdhfaa
open Go.GV Go.RowKit
theorem run_cons (p : Int → Bool) (c : Int) (r : Lx.Bs) : Lx.run p (c :: r) = if p c = true then Lx.run p r + 1 else 0 := by
  simp only [Lx.run]
  cases p c <;> simp
theorem runP_cons (a c : Int) (r : Lx.Bs) : Lx.runP a (c :: r) = if Lx.okp a c = true then Lx.runP c r + 1 else 0 := by
  simp only [Lx.runP]
  cases Lx.okp a c <;> simp
def wordE (s : ByteArray) (i : Int) : Int := atE i (Lx.wordN (tl s i))
theorem wordE_eq {s : ByteArray} {i : Int} (h0 : 0 ≤ i) (h1 : i < s.size) : wordE s i = if Lx.letter (bt s i) = true then i + 1 + Lx.run Lx.alnum (tl s (i + 1)) else 0 := by
  unfold wordE
  rw [tl_cons h0 h1]
  simp only [Lx.wordN]
  cases Lx.letter (bt s i) with
  | true => simp [atE]; omega
  | false => rfl
set_option maxRecDepth 100000 in
theorem word_any (s : ByteArray) (i : Int) (h0 : 0 ≤ i) (h1 : i < s.size) (hz : s.size ≤ 140737488355328) (w : World) :
    Calls Try.prog 167 #[.string s, .int .i64 i] w (PureP w fun v _ => v = .int .i64 (wordE s i)) := by
  have hE := wordE_eq h0 h1
  refine x_fun tt_ok Try.func167 rfl rfl [] 0 [.v (.string s), .v (.int .i64 i)] rfl rfl rfl rfl (fun b hb => by cases hb) ?_
  refine x_vc tt_ok ?_
  repeat (refine And.intro ?_ ?_; first | omega | (simp only [Lay.d_n]; omega) | (simp only [decide_eq_true_eq, decide_eq_false_iff_not, Bool.or_eq_false_iff, Bool.and_eq_true, Bool.or_eq_true, Bool.and_eq_false_iff, Bool.not_eq_true', Bool.not_eq_false', Lay.d_n]; omega) | (simp only [decide_eq_true_eq, decide_eq_false_iff_not, Bool.or_eq_false_iff, Bool.and_eq_true, Bool.or_eq_true, Bool.and_eq_false_iff, Bool.not_eq_true', Bool.not_eq_false']; omega))
  refine xl_call0 (.bool (Lx.letter (bt s i))) rfl rfl rfl rfl fn178 rfl rfl (fun E w F _ => letter_any _ w) ?_
  refine xl_go tt_ok ?_
  refine x_if (fun h => ?_) (fun h => ?_)
  · have h' : Lx.letter (bt s i) = false := by simpa using h
    rw [if_neg (by rw [h']; simp)] at hE
    rw [hE]
    exact fin1 (fun _ _ => rfl)
  · have h' : Lx.letter (bt s i) = true := by simpa using h
    rw [if_pos h'] at hE
    repeat (refine And.intro ?_ ?_; first | omega | (simp only [Lay.d_n]; omega) | (simp only [decide_eq_true_eq, decide_eq_false_iff_not, Bool.or_eq_false_iff, Bool.and_eq_true, Bool.or_eq_true, Bool.and_eq_false_iff, Bool.not_eq_true', Bool.not_eq_false', Lay.d_n]; omega) | (simp only [decide_eq_true_eq, decide_eq_false_iff_not, Bool.or_eq_false_iff, Bool.and_eq_true, Bool.or_eq_true, Bool.and_eq_false_iff, Bool.not_eq_true', Bool.not_eq_false']; omega))
    refine x_loop (σ := Int) (fun k => ⟨[(5, .v (.int .i64 k)), (0, .v (.string s))], [], [], 0⟩)
      (fun k _ => 0 ≤ k ∧ k ≤ s.size ∧ wordE s i = k + Lx.run Lx.alnum (tl s k)) (fun k => (s.size - k).toNat) (fun _ => Nat.le_refl _) (i + 1) [] (.of rfl rfl rfl rfl rfl rfl)
      ⟨by omega, by omega, hE⟩ ?_
    rintro k u2 hu2 ⟨g1, g2, g3⟩
    refine x_vc tt_ok ?_
    repeat (refine And.intro ?_ ?_; first | omega | (simp only [Lay.d_n]; omega) | (simp only [decide_eq_true_eq, decide_eq_false_iff_not, Bool.or_eq_false_iff, Bool.and_eq_true, Bool.or_eq_true, Bool.and_eq_false_iff, Bool.not_eq_true', Bool.not_eq_false', Lay.d_n]; omega) | (simp only [decide_eq_true_eq, decide_eq_false_iff_not, Bool.or_eq_false_iff, Bool.and_eq_true, Bool.or_eq_true, Bool.and_eq_false_iff, Bool.not_eq_true', Bool.not_eq_false']; omega))
    refine xl_gcall0 (.bool (Lx.letter (bt s k))) rfl rfl rfl rfl fn178 rfl rfl (fun _ E w F _ => letter_any _ w) ?_
    refine xl_go tt_ok ?_
    repeat (refine And.intro ?_ ?_; first | omega | (simp only [Lay.d_n]; omega) | (simp only [decide_eq_true_eq, decide_eq_false_iff_not, Bool.or_eq_false_iff, Bool.and_eq_true, Bool.or_eq_true, Bool.and_eq_false_iff, Bool.not_eq_true', Bool.not_eq_false', Lay.d_n]; omega) | (simp only [decide_eq_true_eq, decide_eq_false_iff_not, Bool.or_eq_false_iff, Bool.and_eq_true, Bool.or_eq_true, Bool.and_eq_false_iff, Bool.not_eq_true', Bool.not_eq_false']; omega))
    refine xl_gcall0 (.bool (Lx.digit (bt s k))) rfl rfl rfl rfl fn179 rfl rfl (fun _ E w F _ => digit_any _ w) ?_
    refine xl_go tt_ok ?_
    refine x_if (fun h => ?_) (fun h => ?_)
    · obtain ⟨ha, hb⟩ := Bool.and_eq_true_iff.1 h
      have h2 : k < s.size := of_decide_eq_true ha
      have h3 : Lx.alnum (bt s k) = true := hb
      rw [tl_cons g1 h2, run_cons, if_pos h3] at g3
      repeat (refine And.intro ?_ ?_; first | omega | (simp only [Lay.d_n]; omega) | (simp only [decide_eq_true_eq, decide_eq_false_iff_not, Bool.or_eq_false_iff, Bool.and_eq_true, Bool.or_eq_true, Bool.and_eq_false_iff, Bool.not_eq_true', Bool.not_eq_false', Lay.d_n]; omega) | (simp only [decide_eq_true_eq, decide_eq_false_iff_not, Bool.or_eq_false_iff, Bool.and_eq_true, Bool.or_eq_true, Bool.and_eq_false_iff, Bool.not_eq_true', Bool.not_eq_false']; omega))
      exact again (k + 1) [] (.of rfl rfl rfl rfl rfl rfl) ⟨by omega, by omega, by omega⟩ (by omega)
    · have g4 : wordE s i = k := by
        rw [g3]
        by_cases h2 : k < s.size
        · have h' : (decide (k < (s.size : Int)) && Lx.alnum (bt s k)) = false := h
          rw [decide_eq_true h2, Bool.true_and] at h'
          rw [tl_cons g1 h2, run_cons, if_neg (by rw [h']; simp)]; omega
        · rw [tl_nil (by omega)]; simp [Lx.run]
      rw [g4]
      exact fin1 (fun _ _ => rfl)
def numE (s : ByteArray) (i : Int) : Int := atE i (Lx.numN (tl s i))
theorem numE_eq {s : ByteArray} {i : Int} (h0 : 0 ≤ i) (h1 : i < s.size) : numE s i =
    if bt s i = 46 then (if i + 1 < s.size ∧ Lx.digit (bt s (i + 1)) = true then i + 1 + 1 + Lx.runP (bt s (i + 1)) (tl s (i + 1 + 1)) else 0)
    else if Lx.digit (bt s i) = true then i + 1 + Lx.runP (bt s i) (tl s (i + 1)) else 0 := by
  unfold numE
  rw [tl_cons h0 h1]
  by_cases h46 : bt s i = 46
  · rw [if_pos h46]
    have hd : Lx.digit (bt s i) = false := by rw [h46]; rfl
    by_cases h2 : i + 1 < s.size
    · rw [tl_cons (by omega) h2]
      simp only [Lx.numN, hd, decide_eq_true h46]
      cases hd2 : Lx.digit (bt s (i + 1)) with
      | true => simp [atE, h2]; omega
      | false => simp [atE]
    · rw [tl_nil (by omega)]
      simp only [Lx.numN, hd]
      simp [atE, h2]
  · rw [if_neg h46]
    simp only [Lx.numN]
    cases hd : Lx.digit (bt s i) with
    | true => simp [atE]; omega
    | false => simp [atE, h46]
theorem expo_okc {c : Int} (h : Lx.expo c = true) (a : Int) : Lx.okp a c = true := by
  unfold Lx.expo at h
  simp only [Bool.or_eq_true, decide_eq_true_eq] at h
  unfold Lx.okp Lx.okc Lx.alnum Lx.letter
  rcases h with ((rfl | rfl) | rfl) | rfl <;> simp
theorem sign_expo {c : Int} (h : Lx.sign c = true) : Lx.expo c = false := by
  unfold Lx.sign at h
  simp only [Bool.or_eq_true, decide_eq_true_eq] at h
  rcases h with rfl | rfl <;> rfl
theorem digit_expo {c : Int} (h : Lx.digit c = true) : Lx.expo c = false := by
  unfold Lx.digit at h
  simp only [Bool.and_eq_true, decide_eq_true_eq] at h
  unfold Lx.expo
  rw [decide_eq_false (by omega), decide_eq_false (by omega), decide_eq_false (by omega), decide_eq_false (by omega)]; rfl
set_option maxRecDepth 100000 in
theorem num_any (s : ByteArray) (i : Int) (h0 : 0 ≤ i) (h1 : i < s.size) (hz : s.size ≤ 140737488355328) (w : World) :
    Calls Try.prog 168 #[.string s, .int .i64 i] w (PureP w fun v _ => v = .int .i64 (numE s i)) := by
  have hE := numE_eq h0 h1
  obtain ⟨N, hN⟩ : ∃ N, N = numE s i := ⟨_, rfl⟩
  rw [← hN] at hE ⊢
  refine x_fun tt_ok Try.func168 rfl rfl [] 0 [.v (.string s), .v (.int .i64 i)] rfl rfl rfl rfl (fun b hb => by cases hb) ?_
  refine x_vc tt_ok ?_
  repeat (refine And.intro ?_ ?_; first | omega | (simp only [Lay.d_n]; omega) | (simp only [decide_eq_true_eq, decide_eq_false_iff_not, Bool.or_eq_false_iff, Bool.and_eq_true, Bool.or_eq_true, Bool.and_eq_false_iff, Bool.not_eq_true', Bool.not_eq_false', Lay.d_n]; omega) | (simp only [decide_eq_true_eq, decide_eq_false_iff_not, Bool.or_eq_false_iff, Bool.and_eq_true, Bool.or_eq_true, Bool.and_eq_false_iff, Bool.not_eq_true', Bool.not_eq_false']; omega))
  refine x_if (fun h => ?_) (fun h => ?_)
  · have h46 : bt s i = 46 := of_decide_eq_true h
    rw [if_pos h46] at hE
    repeat (refine And.intro ?_ ?_; first | omega | (simp only [Lay.d_n]; omega) | (simp only [decide_eq_true_eq, decide_eq_false_iff_not, Bool.or_eq_false_iff, Bool.and_eq_true, Bool.or_eq_true, Bool.and_eq_false_iff, Bool.not_eq_true', Bool.not_eq_false', Lay.d_n]; omega) | (simp only [decide_eq_true_eq, decide_eq_false_iff_not, Bool.or_eq_false_iff, Bool.and_eq_true, Bool.or_eq_true, Bool.and_eq_false_iff, Bool.not_eq_true', Bool.not_eq_false']; omega))
    obtain ⟨j, hj⟩ : ∃ j, j = i + 1 := ⟨_, rfl⟩
    rw [← hj] at hE ⊢
    repeat (refine And.intro ?_ ?_; first | omega | (simp only [Lay.d_n]; omega) | (simp only [decide_eq_true_eq, decide_eq_false_iff_not, Bool.or_eq_false_iff, Bool.and_eq_true, Bool.or_eq_true, Bool.and_eq_false_iff, Bool.not_eq_true', Bool.not_eq_false', Lay.d_n]; omega) | (simp only [decide_eq_true_eq, decide_eq_false_iff_not, Bool.or_eq_false_iff, Bool.and_eq_true, Bool.or_eq_true, Bool.and_eq_false_iff, Bool.not_eq_true', Bool.not_eq_false']; omega))
    refine xl_gcall0 (.bool (Lx.digit (bt s j))) rfl rfl rfl rfl fn179 rfl rfl (fun _ E w F _ => digit_any _ w) ?_
    refine xl_go tt_ok ?_
    refine x_if (fun h => ?_) (fun h => ?_)
    · have hn : ¬ (j < (s.size : Int) ∧ Lx.digit (bt s j) = true) := by
        rintro ⟨ha, hb⟩
        have h' : (decide (j = (s.size : Int)) || !Lx.digit (bt s j)) = true := h
        rw [hb, decide_eq_false (by omega)] at h'
        cases h'
      rw [if_neg hn] at hE
      rw [hE]
      exact fin1 (fun _ _ => rfl)
    · have h' : (decide (j = (s.size : Int)) || !Lx.digit (bt s j)) = false := h
      obtain ⟨ha, hb⟩ := Bool.or_eq_false_iff.1 h'
      have ha' := of_decide_eq_false ha
      have hb' : Lx.digit (bt s j) = true := by simpa using hb
      rw [if_pos ⟨by omega, hb'⟩] at hE
      repeat (refine And.intro ?_ ?_; first | omega | (simp only [Lay.d_n]; omega) | (simp only [decide_eq_true_eq, decide_eq_false_iff_not, Bool.or_eq_false_iff, Bool.and_eq_true, Bool.or_eq_true, Bool.and_eq_false_iff, Bool.not_eq_true', Bool.not_eq_false', Lay.d_n]; omega) | (simp only [decide_eq_true_eq, decide_eq_false_iff_not, Bool.or_eq_false_iff, Bool.and_eq_true, Bool.or_eq_true, Bool.and_eq_false_iff, Bool.not_eq_true', Bool.not_eq_false']; omega))
      refine x_loop (σ := Int) (fun k => ⟨[(5, .v (.int .i64 k)), (0, .v (.string s))], [], [], 0⟩)
        (fun k _ => 1 ≤ k ∧ k ≤ s.size ∧ N = k + Lx.runP (bt s (k - 1)) (tl s k) ∧ (k < s.size → (Lx.expo (bt s (k - 1)) && Lx.sign (bt s k)) = false))
        (fun k => (s.size - k).toNat) (fun _ => Nat.le_refl _) (j + 1) [] (.of rfl rfl rfl rfl rfl rfl)
        ⟨by omega, by omega, by rw [show j + 1 - 1 = j by omega]; exact hE, fun _ => by rw [show j + 1 - 1 = j by omega, digit_expo hb']; rfl⟩ ?_
      clear hE
      rintro k u2 hu2 ⟨g1, g2, g3, g4⟩
      refine x_vc tt_ok ?_
      repeat (refine And.intro ?_ ?_; first | omega | (simp only [Lay.d_n]; omega) | (simp only [decide_eq_true_eq, decide_eq_false_iff_not, Bool.or_eq_false_iff, Bool.and_eq_true, Bool.or_eq_true, Bool.and_eq_false_iff, Bool.not_eq_true', Bool.not_eq_false', Lay.d_n]; omega) | (simp only [decide_eq_true_eq, decide_eq_false_iff_not, Bool.or_eq_false_iff, Bool.and_eq_true, Bool.or_eq_true, Bool.and_eq_false_iff, Bool.not_eq_true', Bool.not_eq_false']; omega))
      refine x_if (fun h5 => ?_) (fun h5 => ?_)
      · have h2 : k < s.size := of_decide_eq_true h5
        have g4 := g4 h2
        rw [tl_cons (by omega) h2, runP_cons] at g3
        repeat (refine And.intro ?_ ?_; first | omega | (simp only [Lay.d_n]; omega) | (simp only [decide_eq_true_eq, decide_eq_false_iff_not, Bool.or_eq_false_iff, Bool.and_eq_true, Bool.or_eq_true, Bool.and_eq_false_iff, Bool.not_eq_true', Bool.not_eq_false', Lay.d_n]; omega) | (simp only [decide_eq_true_eq, decide_eq_false_iff_not, Bool.or_eq_false_iff, Bool.and_eq_true, Bool.or_eq_true, Bool.and_eq_false_iff, Bool.not_eq_true', Bool.not_eq_false']; omega))
        refine x_if (fun h6 => ?_) (fun h6 => ?_)
        · have h6' : (Lx.expo (bt s k) && decide (k + 1 < (s.size : Int)) && Lx.sign (bt s (k + 1))) = true := h6
          obtain ⟨h7, h8⟩ := Bool.and_eq_true_iff.1 h6'
          obtain ⟨h9, h10⟩ := Bool.and_eq_true_iff.1 h7
          have h11 := of_decide_eq_true h10
          rw [if_pos (expo_okc h9 _), tl_cons (by omega) h11, runP_cons, if_pos (by unfold Lx.okp; rw [h8, h9]; simp)] at g3
          repeat (refine And.intro ?_ ?_; first | omega | (simp only [Lay.d_n]; omega) | (simp only [decide_eq_true_eq, decide_eq_false_iff_not, Bool.or_eq_false_iff, Bool.and_eq_true, Bool.or_eq_true, Bool.and_eq_false_iff, Bool.not_eq_true', Bool.not_eq_false', Lay.d_n]; omega) | (simp only [decide_eq_true_eq, decide_eq_false_iff_not, Bool.or_eq_false_iff, Bool.and_eq_true, Bool.or_eq_true, Bool.and_eq_false_iff, Bool.not_eq_true', Bool.not_eq_false']; omega))
          exact again (k + 2) [] (.of rfl rfl rfl rfl rfl rfl) ⟨by omega, by omega, by rw [show k + 2 - 1 = k + 1 by omega, show k + 2 = k + 1 + 1 by omega]; omega,
            fun _ => by rw [show k + 2 - 1 = k + 1 by omega, sign_expo h8]; rfl⟩ (by omega)
        · have h6' : (Lx.expo (bt s k) && decide (k + 1 < (s.size : Int)) && Lx.sign (bt s (k + 1))) = false := h6
          have next : Lx.okc (bt s k) = true → 1 ≤ k + 1 ∧ k + 1 ≤ s.size ∧ N = k + 1 + Lx.runP (bt s (k + 1 - 1)) (tl s (k + 1)) ∧ (k + 1 < s.size → (Lx.expo (bt s (k + 1 - 1)) && Lx.sign (bt s (k + 1))) = false) := by
            intro hc
            rw [if_pos (by unfold Lx.okp; rw [hc]; rfl)] at g3
            rw [show k + 1 - 1 = k by omega]
            refine ⟨by omega, by omega, by omega, fun h12 => ?_⟩
            rw [decide_eq_true h12, Bool.and_true] at h6'
            exact h6'
          refine xl_call0 (.bool (Lx.digit (bt s k))) rfl rfl rfl rfl fn179 rfl rfl (fun E w F _ => digit_any _ w) ?_
          refine xl_go tt_ok ?_
          refine x_if (fun h7 => ?_) (fun h7 => ?_)
          · refine x_ift h7 ?_
            repeat (refine And.intro ?_ ?_; first | omega | (simp only [Lay.d_n]; omega) | (simp only [decide_eq_true_eq, decide_eq_false_iff_not, Bool.or_eq_false_iff, Bool.and_eq_true, Bool.or_eq_true, Bool.and_eq_false_iff, Bool.not_eq_true', Bool.not_eq_false', Lay.d_n]; omega) | (simp only [decide_eq_true_eq, decide_eq_false_iff_not, Bool.or_eq_false_iff, Bool.and_eq_true, Bool.or_eq_true, Bool.and_eq_false_iff, Bool.not_eq_true', Bool.not_eq_false']; omega))
            exact again (k + 1) [] (.of rfl rfl rfl rfl rfl rfl) (next (by unfold Lx.okc Lx.alnum; rw [h7]; simp)) (by omega)
          · refine xl_call0 (.bool (Lx.letter (bt s k))) rfl rfl rfl rfl fn178 rfl rfl (fun E w F _ => letter_any _ w) ?_
            refine xl_go tt_ok ?_
            refine x_if (fun h8 => ?_) (fun h8 => ?_)
            · refine x_ift h8 ?_
              repeat (refine And.intro ?_ ?_; first | omega | (simp only [Lay.d_n]; omega) | (simp only [decide_eq_true_eq, decide_eq_false_iff_not, Bool.or_eq_false_iff, Bool.and_eq_true, Bool.or_eq_true, Bool.and_eq_false_iff, Bool.not_eq_true', Bool.not_eq_false', Lay.d_n]; omega) | (simp only [decide_eq_true_eq, decide_eq_false_iff_not, Bool.or_eq_false_iff, Bool.and_eq_true, Bool.or_eq_true, Bool.and_eq_false_iff, Bool.not_eq_true', Bool.not_eq_false']; omega))
              exact again (k + 1) [] (.of rfl rfl rfl rfl rfl rfl) (next (by unfold Lx.okc Lx.alnum; rw [h8]; simp)) (by omega)
            · refine x_if (fun h9 => ?_) (fun h9 => ?_)
              · repeat (refine And.intro ?_ ?_; first | omega | (simp only [Lay.d_n]; omega) | (simp only [decide_eq_true_eq, decide_eq_false_iff_not, Bool.or_eq_false_iff, Bool.and_eq_true, Bool.or_eq_true, Bool.and_eq_false_iff, Bool.not_eq_true', Bool.not_eq_false', Lay.d_n]; omega) | (simp only [decide_eq_true_eq, decide_eq_false_iff_not, Bool.or_eq_false_iff, Bool.and_eq_true, Bool.or_eq_true, Bool.and_eq_false_iff, Bool.not_eq_true', Bool.not_eq_false']; omega))
                exact again (k + 1) [] (.of rfl rfl rfl rfl rfl rfl) (next (by unfold Lx.okc Lx.alnum; rw [h9]; simp)) (by omega)
              · have hc : Lx.okp (bt s (k - 1)) (bt s k) = false := by
                  unfold Lx.okp Lx.okc Lx.alnum
                  rw [h7, h8, h9, Bool.and_comm (Lx.sign _), g4]; rfl
                rw [if_neg (by rw [hc]; simp)] at g3
                have e : N = k := by rw [g3]; simp
                rw [e]
                exact fin1 (fun _ _ => rfl)
      · have h2 : ¬ k < (s.size : Int) := of_decide_eq_false h5
        rw [tl_nil (by omega)] at g3
        have e : N = k := by rw [g3]; simp [Lx.runP]
        rw [e]
        exact fin1 (fun _ _ => rfl)
  · have h46 : ¬ bt s i = 46 := of_decide_eq_false h
    rw [if_neg h46] at hE
    have hE : N = if i < s.size ∧ Lx.digit (bt s i) = true then i + 1 + Lx.runP (bt s i) (tl s (i + 1)) else 0 := by
      rw [hE]; simp [h1]
    obtain ⟨j, hj⟩ : ∃ j, j = i := ⟨_, rfl⟩
    have hE : N = if j < s.size ∧ Lx.digit (bt s j) = true then j + 1 + Lx.runP (bt s j) (tl s (j + 1)) else 0 := by rw [hj]; exact hE
    rw [← hj]
    repeat (refine And.intro ?_ ?_; first | omega | (simp only [Lay.d_n]; omega) | (simp only [decide_eq_true_eq, decide_eq_false_iff_not, Bool.or_eq_false_iff, Bool.and_eq_true, Bool.or_eq_true, Bool.and_eq_false_iff, Bool.not_eq_true', Bool.not_eq_false', Lay.d_n]; omega) | (simp only [decide_eq_true_eq, decide_eq_false_iff_not, Bool.or_eq_false_iff, Bool.and_eq_true, Bool.or_eq_true, Bool.and_eq_false_iff, Bool.not_eq_true', Bool.not_eq_false']; omega))
    refine xl_gcall0 (.bool (Lx.digit (bt s j))) rfl rfl rfl rfl fn179 rfl rfl (fun _ E w F _ => digit_any _ w) ?_
    refine xl_go tt_ok ?_
    refine x_if (fun h => ?_) (fun h => ?_)
    · have hn : ¬ (j < (s.size : Int) ∧ Lx.digit (bt s j) = true) := by
        rintro ⟨ha, hb⟩
        have h' : (decide (j = (s.size : Int)) || !Lx.digit (bt s j)) = true := h
        rw [hb, decide_eq_false (by omega)] at h'
        cases h'
      rw [if_neg hn] at hE
      rw [hE]
      exact fin1 (fun _ _ => rfl)
    · have h' : (decide (j = (s.size : Int)) || !Lx.digit (bt s j)) = false := h
      obtain ⟨ha, hb⟩ := Bool.or_eq_false_iff.1 h'
      have ha' := of_decide_eq_false ha
      have hb' : Lx.digit (bt s j) = true := by simpa using hb
      rw [if_pos ⟨by omega, hb'⟩] at hE
      repeat (refine And.intro ?_ ?_; first | omega | (simp only [Lay.d_n]; omega) | (simp only [decide_eq_true_eq, decide_eq_false_iff_not, Bool.or_eq_false_iff, Bool.and_eq_true, Bool.or_eq_true, Bool.and_eq_false_iff, Bool.not_eq_true', Bool.not_eq_false', Lay.d_n]; omega) | (simp only [decide_eq_true_eq, decide_eq_false_iff_not, Bool.or_eq_false_iff, Bool.and_eq_true, Bool.or_eq_true, Bool.and_eq_false_iff, Bool.not_eq_true', Bool.not_eq_false']; omega))
      refine x_loop (σ := Int) (fun k => ⟨[(5, .v (.int .i64 k)), (0, .v (.string s))], [], [], 0⟩)
        (fun k _ => 1 ≤ k ∧ k ≤ s.size ∧ N = k + Lx.runP (bt s (k - 1)) (tl s k) ∧ (k < s.size → (Lx.expo (bt s (k - 1)) && Lx.sign (bt s k)) = false))
        (fun k => (s.size - k).toNat) (fun _ => Nat.le_refl _) (j + 1) [] (.of rfl rfl rfl rfl rfl rfl)
        ⟨by omega, by omega, by rw [show j + 1 - 1 = j by omega]; exact hE, fun _ => by rw [show j + 1 - 1 = j by omega, digit_expo hb']; rfl⟩ ?_
      clear hE
      rintro k u2 hu2 ⟨g1, g2, g3, g4⟩
      refine x_vc tt_ok ?_
      repeat (refine And.intro ?_ ?_; first | omega | (simp only [Lay.d_n]; omega) | (simp only [decide_eq_true_eq, decide_eq_false_iff_not, Bool.or_eq_false_iff, Bool.and_eq_true, Bool.or_eq_true, Bool.and_eq_false_iff, Bool.not_eq_true', Bool.not_eq_false', Lay.d_n]; omega) | (simp only [decide_eq_true_eq, decide_eq_false_iff_not, Bool.or_eq_false_iff, Bool.and_eq_true, Bool.or_eq_true, Bool.and_eq_false_iff, Bool.not_eq_true', Bool.not_eq_false']; omega))
      refine x_if (fun h5 => ?_) (fun h5 => ?_)
      · have h2 : k < s.size := of_decide_eq_true h5
        have g4 := g4 h2
        rw [tl_cons (by omega) h2, runP_cons] at g3
        repeat (refine And.intro ?_ ?_; first | omega | (simp only [Lay.d_n]; omega) | (simp only [decide_eq_true_eq, decide_eq_false_iff_not, Bool.or_eq_false_iff, Bool.and_eq_true, Bool.or_eq_true, Bool.and_eq_false_iff, Bool.not_eq_true', Bool.not_eq_false', Lay.d_n]; omega) | (simp only [decide_eq_true_eq, decide_eq_false_iff_not, Bool.or_eq_false_iff, Bool.and_eq_true, Bool.or_eq_true, Bool.and_eq_false_iff, Bool.not_eq_true', Bool.not_eq_false']; omega))
        refine x_if (fun h6 => ?_) (fun h6 => ?_)
        · have h6' : (Lx.expo (bt s k) && decide (k + 1 < (s.size : Int)) && Lx.sign (bt s (k + 1))) = true := h6
          obtain ⟨h7, h8⟩ := Bool.and_eq_true_iff.1 h6'
          obtain ⟨h9, h10⟩ := Bool.and_eq_true_iff.1 h7
          have h11 := of_decide_eq_true h10
          rw [if_pos (expo_okc h9 _), tl_cons (by omega) h11, runP_cons, if_pos (by unfold Lx.okp; rw [h8, h9]; simp)] at g3
          repeat (refine And.intro ?_ ?_; first | omega | (simp only [Lay.d_n]; omega) | (simp only [decide_eq_true_eq, decide_eq_false_iff_not, Bool.or_eq_false_iff, Bool.and_eq_true, Bool.or_eq_true, Bool.and_eq_false_iff, Bool.not_eq_true', Bool.not_eq_false', Lay.d_n]; omega) | (simp only [decide_eq_true_eq, decide_eq_false_iff_not, Bool.or_eq_false_iff, Bool.and_eq_true, Bool.or_eq_true, Bool.and_eq_false_iff, Bool.not_eq_true', Bool.not_eq_false']; omega))
          exact again (k + 2) [] (.of rfl rfl rfl rfl rfl rfl) ⟨by omega, by omega, by rw [show k + 2 - 1 = k + 1 by omega, show k + 2 = k + 1 + 1 by omega]; omega,
            fun _ => by rw [show k + 2 - 1 = k + 1 by omega, sign_expo h8]; rfl⟩ (by omega)
        · have h6' : (Lx.expo (bt s k) && decide (k + 1 < (s.size : Int)) && Lx.sign (bt s (k + 1))) = false := h6
          have next : Lx.okc (bt s k) = true → 1 ≤ k + 1 ∧ k + 1 ≤ s.size ∧ N = k + 1 + Lx.runP (bt s (k + 1 - 1)) (tl s (k + 1)) ∧ (k + 1 < s.size → (Lx.expo (bt s (k + 1 - 1)) && Lx.sign (bt s (k + 1))) = false) := by
            intro hc
            rw [if_pos (by unfold Lx.okp; rw [hc]; rfl)] at g3
            rw [show k + 1 - 1 = k by omega]
            refine ⟨by omega, by omega, by omega, fun h12 => ?_⟩
            rw [decide_eq_true h12, Bool.and_true] at h6'
            exact h6'
          refine xl_call0 (.bool (Lx.digit (bt s k))) rfl rfl rfl rfl fn179 rfl rfl (fun E w F _ => digit_any _ w) ?_
          refine xl_go tt_ok ?_
          refine x_if (fun h7 => ?_) (fun h7 => ?_)
          · refine x_ift h7 ?_
            repeat (refine And.intro ?_ ?_; first | omega | (simp only [Lay.d_n]; omega) | (simp only [decide_eq_true_eq, decide_eq_false_iff_not, Bool.or_eq_false_iff, Bool.and_eq_true, Bool.or_eq_true, Bool.and_eq_false_iff, Bool.not_eq_true', Bool.not_eq_false', Lay.d_n]; omega) | (simp only [decide_eq_true_eq, decide_eq_false_iff_not, Bool.or_eq_false_iff, Bool.and_eq_true, Bool.or_eq_true, Bool.and_eq_false_iff, Bool.not_eq_true', Bool.not_eq_false']; omega))
            exact again (k + 1) [] (.of rfl rfl rfl rfl rfl rfl) (next (by unfold Lx.okc Lx.alnum; rw [h7]; simp)) (by omega)
          · refine xl_call0 (.bool (Lx.letter (bt s k))) rfl rfl rfl rfl fn178 rfl rfl (fun E w F _ => letter_any _ w) ?_
            refine xl_go tt_ok ?_
            refine x_if (fun h8 => ?_) (fun h8 => ?_)
            · refine x_ift h8 ?_
              repeat (refine And.intro ?_ ?_; first | omega | (simp only [Lay.d_n]; omega) | (simp only [decide_eq_true_eq, decide_eq_false_iff_not, Bool.or_eq_false_iff, Bool.and_eq_true, Bool.or_eq_true, Bool.and_eq_false_iff, Bool.not_eq_true', Bool.not_eq_false', Lay.d_n]; omega) | (simp only [decide_eq_true_eq, decide_eq_false_iff_not, Bool.or_eq_false_iff, Bool.and_eq_true, Bool.or_eq_true, Bool.and_eq_false_iff, Bool.not_eq_true', Bool.not_eq_false']; omega))
              exact again (k + 1) [] (.of rfl rfl rfl rfl rfl rfl) (next (by unfold Lx.okc Lx.alnum; rw [h8]; simp)) (by omega)
            · refine x_if (fun h9 => ?_) (fun h9 => ?_)
              · repeat (refine And.intro ?_ ?_; first | omega | (simp only [Lay.d_n]; omega) | (simp only [decide_eq_true_eq, decide_eq_false_iff_not, Bool.or_eq_false_iff, Bool.and_eq_true, Bool.or_eq_true, Bool.and_eq_false_iff, Bool.not_eq_true', Bool.not_eq_false', Lay.d_n]; omega) | (simp only [decide_eq_true_eq, decide_eq_false_iff_not, Bool.or_eq_false_iff, Bool.and_eq_true, Bool.or_eq_true, Bool.and_eq_false_iff, Bool.not_eq_true', Bool.not_eq_false']; omega))
                exact again (k + 1) [] (.of rfl rfl rfl rfl rfl rfl) (next (by unfold Lx.okc Lx.alnum; rw [h9]; simp)) (by omega)
              · have hc : Lx.okp (bt s (k - 1)) (bt s k) = false := by
                  unfold Lx.okp Lx.okc Lx.alnum
                  rw [h7, h8, h9, Bool.and_comm (Lx.sign _), g4]; rfl
                rw [if_neg (by rw [hc]; simp)] at g3
                have e : N = k := by rw [g3]; simp
                rw [e]
                exact fin1 (fun _ _ => rfl)
      · have h2 : ¬ k < (s.size : Int) := of_decide_eq_false h5
        rw [tl_nil (by omega)] at g3
        have e : N = k := by rw [g3]; simp [Lx.runP]
        rw [e]
        exact fin1 (fun _ _ => rfl)
end Go.Proofs.Ytdonomneofdhfaa
namespace Go.Proofs.Ytdonomneofdhfaa
open Go.GV Go.RowKit
theorem bl_sub (s : ByteArray) {a b : Int} (h0 : 0 ≤ a) (h1 : a ≤ b) (h2 : b ≤ s.size) : bl (sub s a b) = (tl s a).take (b - a).toNat := by
  unfold bl sub tl bl
  rw [ByteArray.data_extract, Array.toList_extract, List.extract_eq_take_drop, List.map_take, List.map_drop, show b.toNat - a.toNat = (b - a).toNat by omega]
theorem bl_rest (s : ByteArray) {a : Int} (h0 : 0 ≤ a) (h1 : a ≤ s.size) : bl (sub s a s.size) = tl s a := by
  rw [bl_sub s h0 h1 (Int.le_refl _), List.take_of_length_le (by rw [tl_len]; omega)]
theorem bl_inj {a b : ByteArray} (h : bl a = bl b) : a = b := by
  have h2 : a.data.toList = b.data.toList := by
    unfold bl at h
    refine List.map_inj_right (f := fun b : UInt8 => (b.toNat : Int)) (fun x y hxy => ?_) |>.1 h
    exact UInt8.toNat_inj.1 (Int.ofNat.inj hxy)
  cases a; cases b
  simp only [ByteArray.mk.injEq]
  exact Array.toList_inj.1 h2
theorem bl_eq {a b : ByteArray} : decide (a = b) = decide (bl a = bl b) := by
  by_cases h : a = b
  · subst h; simp
  · rw [decide_eq_false h, decide_eq_false (fun h2 => h (bl_inj h2))]
def hasP (a b : ByteArray) : Bool := decide ((b.size : Int) ≤ a.size) && decide (sub a 0 b.size = b)
theorem hasP_bl (a b : ByteArray) : hasP a b = decide ((bl a).take b.size = bl b) := by
  unfold hasP
  by_cases h : (b.size : Int) ≤ a.size
  · rw [decide_eq_true h, Bool.true_and, bl_eq, bl_sub a (by omega) (by omega) h, tl_zero, Int.sub_zero, Int.toNat_natCast]
  · rw [decide_eq_false h, Bool.false_and]
    refine (decide_eq_false (fun h2 => h ?_)).symm
    have := congrArg List.length h2
    rw [List.length_take, bl_len, bl_len] at this
    omega
set_option maxRecDepth 100000 in
theorem hasPL_any (a b : ByteArray) (w : World) : Calls Try.prog 164 #[.string a, .string b] w (PureP w fun v _ => v = .bool (hasP a b)) := by
  refine x_fun tt_ok Try.func164 rfl rfl [] 0 [.v (.string a), .v (.string b)] rfl rfl rfl rfl (fun b hb => by cases hb) ?_
  refine x_vc tt_ok ?_
  repeat (refine And.intro ?_ ?_; first | omega | (simp only [Lay.d_n]; omega) | (simp only [decide_eq_true_eq, decide_eq_false_iff_not, Bool.or_eq_false_iff, Bool.and_eq_true, Bool.or_eq_true, Bool.and_eq_false_iff, Bool.not_eq_true', Bool.not_eq_false', Lay.d_n]; omega) | (simp only [decide_eq_true_eq, decide_eq_false_iff_not, Bool.or_eq_false_iff, Bool.and_eq_true, Bool.or_eq_true, Bool.and_eq_false_iff, Bool.not_eq_true', Bool.not_eq_false']; omega))
  exact fin1 (fun _ _ => rfl)
theorem hasP_any (a b : ByteArray) (w : World) : Calls Try.prog 151 #[.string a, .string b] w (PureP w fun v _ => v = .bool (hasP a b)) := by
  refine x_fun tt_ok Try.func151 rfl rfl [] 0 [.v (.string a), .v (.string b)] rfl rfl rfl rfl (fun b hb => by cases hb) ?_
  refine x_vc tt_ok ?_
  refine xl_call0 (.bool (hasP a b)) rfl rfl rfl rfl fn164 rfl rfl (fun E w F _ => hasPL_any _ _ w) ?_
  refine xl_go tt_ok ?_
  exact fin1 (fun _ _ => rfl)
def litE (s : ByteArray) (i : Int) : Int × Int := ((Lx.litQ (tl s i)).1, atE i (Lx.litQ (tl s i)).2)
def lE (q st e : Int) : Int × Int := if e = 0 then (0, 0) else if q = 34 then (4, e) else if e = st + 1 then (0, 0) else (3, e)
theorem tl_tl (s : ByteArray) {i : Int} (h0 : 0 ≤ i) (n : Nat) : (tl s i).drop n = tl s (i + n) := by
  unfold tl
  rw [List.drop_drop]; congr 1; omega
theorem litE_eq {s : ByteArray} {i : Int} (h0 : 0 ≤ i) {j : Int} (hj : j = i + Lx.prefN (tl s i)) : litE s i =
    if j < s.size ∧ (bt s j = 34 ∨ bt s j = 39) then lE (bt s j) (j + 1) (atE (j + 1) (Lx.bodyN (bt s j) (tl s (j + 1)))) else (0, 0) := by
  unfold litE Lx.litQ
  rw [tl_tl s h0, ← hj]
  by_cases h2 : j < s.size
  · rw [tl_cons (by omega) h2]
    simp only [h2, true_and]
    by_cases h34 : bt s j = 34
    · rw [if_pos h34, if_pos (.inl h34)]
      cases hb : Lx.bodyN 34 (tl s (j + 1)) with
      | zero => simp [h34, hb, atE, lE]
      | succ n =>
        simp [h34, hb, atE, lE]
        rw [if_neg (by omega)]
        simp only [Prod.mk.injEq, true_and]; omega
    · rw [if_neg h34]
      by_cases h39 : bt s j = 39
      · rw [if_pos h39, if_pos (.inr h39)]
        cases hb : Lx.bodyN 39 (tl s (j + 1)) with
        | zero => simp [h39, hb, atE, lE]
        | succ n =>
          cases n with
          | zero => simp [h39, hb, atE, lE]
          | succ n =>
            simp [h39, hb, atE, lE]
            rw [if_neg (by omega), if_neg (by omega)]
            simp only [Prod.mk.injEq, true_and]; omega
      · rw [if_neg h39, if_neg (by simp [h34, h39])]; rfl
  · rw [tl_nil (by omega), if_neg (by simp [h2])]; rfl
theorem bodyN_cons (q c : Int) (r : Lx.Bs) : Lx.bodyN q (c :: r) = if c = 10 then 0 else if c = q then 1 else if c = 92 then
    (match r with
      | [] => 0
      | d :: r' => if d = 10 then 0 else if Lx.bodyN q r' = 0 then 0 else Lx.bodyN q r' + 1 + 1)
    else if Lx.bodyN q r = 0 then 0 else Lx.bodyN q r + 1 := by
  cases r with
  | nil =>
    simp only [Lx.bodyN]
    by_cases h1 : c = 10
    · simp [h1]
    · by_cases h2 : c = q
      · subst h2; simp [h1]
      · simp [h1, h2]
  | cons d r =>
    simp only [Lx.bodyN]
    by_cases h1 : c = 10
    · simp [h1]
    · by_cases h2 : c = q
      · subst h2; simp [h1]
      · by_cases h3 : c = 92
        · subst h3
          simp only [h1, h2, decide_false, if_false, decide_true, if_true]
          by_cases h4 : d = 10
          · simp [h4]
          · simp only [h4, decide_false, if_false]
            cases Lx.bodyN q r <;> simp
        · simp only [h1, h2, h3, decide_false, if_false]
          cases Lx.bodyN q (d :: r) <;> simp
theorem atE_up2 (k : Int) (n : Nat) : atE k (if n = 0 then 0 else n + 1 + 1) = atE (k + 2) n := by
  unfold atE
  by_cases h : n = 0
  · simp [h]
  · simp [h]; omega
theorem prefN_eq {s : ByteArray} {i : Int} (h0 : 0 ≤ i) (h1 : i < s.size) : Lx.prefN (tl s i) =
    if hasP (sub s i s.size) ⟨#[117, 56, 34]⟩ = true then 2 else if (decide (bt s i = 117) || (decide (bt s i = 85) || decide (bt s i = 76))) = true then 1 else 0 := by
  rw [hasP_bl, bl_rest s h0 (by omega), tl_cons h0 h1]
  have e : decide (List.take (ByteArray.mk #[117, 56, 34]).size (bt s i :: tl s (i + 1)) = bl ⟨#[117, 56, 34]⟩) =
      (decide (bt s i = 117) && decide ((tl s (i + 1)).head? = some 56) && decide ((tl s (i + 1))[1]? = some 34)) := by
    show decide ((bt s i :: tl s (i + 1)).take 3 = [117, 56, 34]) = _
    match tl s (i + 1) with
    | [] => simp
    | [d] => simp
    | d :: e :: r => simp [Bool.and_assoc]
  rw [e]
  simp only [Lx.prefN]
  cases (decide (bt s i = 117) && decide ((tl s (i + 1)).head? = some 56) && decide ((tl s (i + 1))[1]? = some 34)) with
  | true => simp
  | false =>
    simp only [Bool.false_eq_true, if_false, ← Bool.or_assoc]
    cases (decide (bt s i = 117) || decide (bt s i = 85) || decide (bt s i = 76)) <;> simp
theorem prefN_len (l : Lx.Bs) : Lx.prefN l ≤ l.length := by
  cases l with
  | nil => exact Nat.le_refl _
  | cons c r =>
    simp only [Lx.prefN, List.length_cons]
    split
    · rename_i h
      simp only [Bool.and_eq_true, decide_eq_true_eq] at h
      cases r with
      | nil => simp at h
      | cons d r => simp
    · split <;> omega
set_option maxRecDepth 100000 in
theorem lit_any (s : ByteArray) (i : Int) (h0 : 0 ≤ i) (h1 : i < s.size) (hz : s.size ≤ 140737488355328) (w : World) :
    Calls Try.prog 166 #[.string s, .int .i64 i] w (PureP w fun v _ => v = .tuple #[.int .i64 (litE s i).1, .int .i64 (litE s i).2]) := by
  have hP := prefN_eq h0 h1
  refine x_fun tt_ok Try.func166 rfl rfl [] 0 [.v (.string s), .v (.int .i64 i)] rfl rfl rfl rfl (fun b hb => by cases hb) ?_
  refine x_seq ?_
  refine x_vc tt_ok ?_
  refine x_seq ?_
  refine x_vc tt_ok ?_
  refine x_cut (σ := Int) (fun j => ⟨[(6, .v (.int .i64 j)), (0, .v (.string s))], [], [], 0⟩)
    (fun j _ => j = i + Lx.prefN (tl s i)) (fun _ => Nat.le_refl _) ?_ ?_
  · refine x_vc tt_ok ?_
    repeat (refine And.intro ?_ ?_; first | omega | (simp only [Lay.d_n]; omega) | (simp only [decide_eq_true_eq, decide_eq_false_iff_not, Bool.or_eq_false_iff, Bool.and_eq_true, Bool.or_eq_true, Bool.and_eq_false_iff, Bool.not_eq_true', Bool.not_eq_false', Lay.d_n]; omega) | (simp only [decide_eq_true_eq, decide_eq_false_iff_not, Bool.or_eq_false_iff, Bool.and_eq_true, Bool.or_eq_true, Bool.and_eq_false_iff, Bool.not_eq_true', Bool.not_eq_false']; omega))
    refine xl_call0 (.bool (hasP (sub s i s.size) ⟨#[117, 56, 34]⟩)) rfl rfl rfl rfl fn151 rfl rfl (fun E w F _ => hasP_any _ _ w) ?_
    refine xl_go tt_ok ?_
    refine x_if (fun h => ?_) (fun h => ?_)
    · rw [if_pos h] at hP
      repeat (refine And.intro ?_ ?_; first | omega | (simp only [Lay.d_n]; omega) | (simp only [decide_eq_true_eq, decide_eq_false_iff_not, Bool.or_eq_false_iff, Bool.and_eq_true, Bool.or_eq_true, Bool.and_eq_false_iff, Bool.not_eq_true', Bool.not_eq_false', Lay.d_n]; omega) | (simp only [decide_eq_true_eq, decide_eq_false_iff_not, Bool.or_eq_false_iff, Bool.and_eq_true, Bool.or_eq_true, Bool.and_eq_false_iff, Bool.not_eq_true', Bool.not_eq_false']; omega))
      exact meet (i + 2) [] (.of rfl rfl rfl rfl rfl rfl) (by rw [hP]; rfl)
    · rw [if_neg (by rw [h]; simp)] at hP
      repeat (refine And.intro ?_ ?_; first | omega | (simp only [Lay.d_n]; omega) | (simp only [decide_eq_true_eq, decide_eq_false_iff_not, Bool.or_eq_false_iff, Bool.and_eq_true, Bool.or_eq_true, Bool.and_eq_false_iff, Bool.not_eq_true', Bool.not_eq_false', Lay.d_n]; omega) | (simp only [decide_eq_true_eq, decide_eq_false_iff_not, Bool.or_eq_false_iff, Bool.and_eq_true, Bool.or_eq_true, Bool.and_eq_false_iff, Bool.not_eq_true', Bool.not_eq_false']; omega))
      refine x_if (fun h2 => ?_) (fun h2 => ?_)
      · rw [h2, if_pos (by simp)] at hP
        refine x_ift h2 ?_
        repeat (refine And.intro ?_ ?_; first | omega | (simp only [Lay.d_n]; omega) | (simp only [decide_eq_true_eq, decide_eq_false_iff_not, Bool.or_eq_false_iff, Bool.and_eq_true, Bool.or_eq_true, Bool.and_eq_false_iff, Bool.not_eq_true', Bool.not_eq_false', Lay.d_n]; omega) | (simp only [decide_eq_true_eq, decide_eq_false_iff_not, Bool.or_eq_false_iff, Bool.and_eq_true, Bool.or_eq_true, Bool.and_eq_false_iff, Bool.not_eq_true', Bool.not_eq_false']; omega))
        exact meet (i + 1) [] (.of rfl rfl rfl rfl rfl rfl) (by rw [hP]; rfl)
      · repeat (refine And.intro ?_ ?_; first | omega | (simp only [Lay.d_n]; omega) | (simp only [decide_eq_true_eq, decide_eq_false_iff_not, Bool.or_eq_false_iff, Bool.and_eq_true, Bool.or_eq_true, Bool.and_eq_false_iff, Bool.not_eq_true', Bool.not_eq_false', Lay.d_n]; omega) | (simp only [decide_eq_true_eq, decide_eq_false_iff_not, Bool.or_eq_false_iff, Bool.and_eq_true, Bool.or_eq_true, Bool.and_eq_false_iff, Bool.not_eq_true', Bool.not_eq_false']; omega))
        refine x_if (fun h3 => ?_) (fun h3 => ?_)
        · rw [h2, h3, if_pos (by simp)] at hP
          refine x_ift h3 ?_
          repeat (refine And.intro ?_ ?_; first | omega | (simp only [Lay.d_n]; omega) | (simp only [decide_eq_true_eq, decide_eq_false_iff_not, Bool.or_eq_false_iff, Bool.and_eq_true, Bool.or_eq_true, Bool.and_eq_false_iff, Bool.not_eq_true', Bool.not_eq_false', Lay.d_n]; omega) | (simp only [decide_eq_true_eq, decide_eq_false_iff_not, Bool.or_eq_false_iff, Bool.and_eq_true, Bool.or_eq_true, Bool.and_eq_false_iff, Bool.not_eq_true', Bool.not_eq_false']; omega))
          exact meet (i + 1) [] (.of rfl rfl rfl rfl rfl rfl) (by rw [hP]; rfl)
        · repeat (refine And.intro ?_ ?_; first | omega | (simp only [Lay.d_n]; omega) | (simp only [decide_eq_true_eq, decide_eq_false_iff_not, Bool.or_eq_false_iff, Bool.and_eq_true, Bool.or_eq_true, Bool.and_eq_false_iff, Bool.not_eq_true', Bool.not_eq_false', Lay.d_n]; omega) | (simp only [decide_eq_true_eq, decide_eq_false_iff_not, Bool.or_eq_false_iff, Bool.and_eq_true, Bool.or_eq_true, Bool.and_eq_false_iff, Bool.not_eq_true', Bool.not_eq_false']; omega))
          refine x_if (fun h4 => ?_) (fun h4 => ?_)
          · rw [h2, h3, h4, if_pos (by simp)] at hP
            repeat (refine And.intro ?_ ?_; first | omega | (simp only [Lay.d_n]; omega) | (simp only [decide_eq_true_eq, decide_eq_false_iff_not, Bool.or_eq_false_iff, Bool.and_eq_true, Bool.or_eq_true, Bool.and_eq_false_iff, Bool.not_eq_true', Bool.not_eq_false', Lay.d_n]; omega) | (simp only [decide_eq_true_eq, decide_eq_false_iff_not, Bool.or_eq_false_iff, Bool.and_eq_true, Bool.or_eq_true, Bool.and_eq_false_iff, Bool.not_eq_true', Bool.not_eq_false']; omega))
            exact meet (i + 1) [] (.of rfl rfl rfl rfl rfl rfl) (by rw [hP]; rfl)
          · rw [h2, h3, h4, if_neg (by simp)] at hP
            exact meet i [] (.of rfl rfl rfl rfl rfl rfl) (by rw [hP]; exact (Int.add_zero _).symm)
  · rintro j u hu hj
    have hE := litE_eq h0 hj
    have hj0 : 0 ≤ j := by omega
    have hjl : j ≤ s.size := by
      have := prefN_len (tl s i)
      rw [tl_len] at this
      omega
    clear hP hj
    obtain ⟨N, hN⟩ : ∃ N, N = litE s i := ⟨_, rfl⟩
    rw [← hN] at hE ⊢
    refine x_vc tt_ok ?_
    repeat (refine And.intro ?_ ?_; first | omega | (simp only [Lay.d_n]; omega) | (simp only [decide_eq_true_eq, decide_eq_false_iff_not, Bool.or_eq_false_iff, Bool.and_eq_true, Bool.or_eq_true, Bool.and_eq_false_iff, Bool.not_eq_true', Bool.not_eq_false', Lay.d_n]; omega) | (simp only [decide_eq_true_eq, decide_eq_false_iff_not, Bool.or_eq_false_iff, Bool.and_eq_true, Bool.or_eq_true, Bool.and_eq_false_iff, Bool.not_eq_true', Bool.not_eq_false']; omega))
    refine x_if (fun h => ?_) (fun h => ?_)
    · have hn : ¬ (j < (s.size : Int) ∧ (bt s j = 34 ∨ bt s j = 39)) := by
        rintro ⟨ha, hb⟩
        have h' : (decide (j = (s.size : Int)) || (decide (bt s j ≠ 39) && decide (bt s j ≠ 34))) = true := h
        rw [decide_eq_false (by omega)] at h'
        simp only [Bool.false_or, Bool.and_eq_true, decide_eq_true_eq] at h'
        omega
      rw [if_neg hn] at hE
      rw [hE]
      exact fin1 (fun _ _ => rfl)
    · have h' : (decide (j = (s.size : Int)) || (decide (bt s j ≠ 39) && decide (bt s j ≠ 34))) = false := h
      obtain ⟨ha, hb⟩ := Bool.or_eq_false_iff.1 h'
      have ha' := of_decide_eq_false ha
      have hq : bt s j = 34 ∨ bt s j = 39 := by
        by_cases h39 : bt s j = 39
        · exact .inr h39
        · rw [decide_eq_true h39, Bool.true_and] at hb
          exact .inl (Classical.not_not.1 (of_decide_eq_false hb))
      rw [if_pos ⟨by omega, hq⟩] at hE
      clear hb h h' ha
      refine x_draw mix (by kernel_rfl) (xd_go tt_ok ?_)
      repeat (refine And.intro ?_ ?_; first | omega | (simp only [Lay.d_n]; omega) | (simp only [decide_eq_true_eq, decide_eq_false_iff_not, Bool.or_eq_false_iff, Bool.and_eq_true, Bool.or_eq_true, Bool.and_eq_false_iff, Bool.not_eq_true', Bool.not_eq_false', Lay.d_n]; omega) | (simp only [decide_eq_true_eq, decide_eq_false_iff_not, Bool.or_eq_false_iff, Bool.and_eq_true, Bool.or_eq_true, Bool.and_eq_false_iff, Bool.not_eq_true', Bool.not_eq_false']; omega))
      refine x_vc tt_ok ?_
      generalize bt s j = q at hE hq ⊢
      refine x_loop (σ := Int) (fun k => ⟨[(8, .v (.int .u8 q)), (7, .v (.int .i64 (j + 1))), (6, .v (.int .i64 k)), (0, .v (.string s))], [], [], 0⟩)
        (fun k _ => j + 1 ≤ k ∧ k ≤ s.size ∧ N = lE q (j + 1) (atE k (Lx.bodyN q (tl s k)))) (fun k => (s.size - k).toNat) (fun _ => Nat.le_refl _) (j + 1) [] (.of rfl rfl rfl rfl rfl rfl)
        ⟨by omega, by omega, hE⟩ ?_
      clear hE
      rintro k u2 hu2 ⟨g1, g2, g3⟩
      refine x_vc tt_ok ?_
      repeat (refine And.intro ?_ ?_; first | omega | (simp only [Lay.d_n]; omega) | (simp only [decide_eq_true_eq, decide_eq_false_iff_not, Bool.or_eq_false_iff, Bool.and_eq_true, Bool.or_eq_true, Bool.and_eq_false_iff, Bool.not_eq_true', Bool.not_eq_false', Lay.d_n]; omega) | (simp only [decide_eq_true_eq, decide_eq_false_iff_not, Bool.or_eq_false_iff, Bool.and_eq_true, Bool.or_eq_true, Bool.and_eq_false_iff, Bool.not_eq_true', Bool.not_eq_false']; omega))
      refine x_if (fun h => ?_) (fun h => ?_)
      · obtain ⟨hc, hb⟩ := Bool.and_eq_true_iff.1 h
        have h2 : k < s.size := of_decide_eq_true hc
        have h3 : ¬ bt s k = 10 := of_decide_eq_true hb
        rw [tl_cons (by omega) h2, bodyN_cons, if_neg h3] at g3
        repeat (refine And.intro ?_ ?_; first | omega | (simp only [Lay.d_n]; omega) | (simp only [decide_eq_true_eq, decide_eq_false_iff_not, Bool.or_eq_false_iff, Bool.and_eq_true, Bool.or_eq_true, Bool.and_eq_false_iff, Bool.not_eq_true', Bool.not_eq_false', Lay.d_n]; omega) | (simp only [decide_eq_true_eq, decide_eq_false_iff_not, Bool.or_eq_false_iff, Bool.and_eq_true, Bool.or_eq_true, Bool.and_eq_false_iff, Bool.not_eq_true', Bool.not_eq_false']; omega))
        refine x_if (fun h5 => ?_) (fun h5 => ?_)
        · obtain ⟨h6, h7⟩ := Bool.and_eq_true_iff.1 h5
          have h6 : bt s k = q := of_decide_eq_true h6
          have h7 : q = 34 := of_decide_eq_true h7
          rw [if_pos h6, atE_one, lE, if_neg (by omega), if_pos h7] at g3
          repeat (refine And.intro ?_ ?_; first | omega | (simp only [Lay.d_n]; omega) | (simp only [decide_eq_true_eq, decide_eq_false_iff_not, Bool.or_eq_false_iff, Bool.and_eq_true, Bool.or_eq_true, Bool.and_eq_false_iff, Bool.not_eq_true', Bool.not_eq_false', Lay.d_n]; omega) | (simp only [decide_eq_true_eq, decide_eq_false_iff_not, Bool.or_eq_false_iff, Bool.and_eq_true, Bool.or_eq_true, Bool.and_eq_false_iff, Bool.not_eq_true', Bool.not_eq_false']; omega))
          rw [g3]
          exact fin1 (fun _ _ => rfl)
        · repeat (refine And.intro ?_ ?_; first | omega | (simp only [Lay.d_n]; omega) | (simp only [decide_eq_true_eq, decide_eq_false_iff_not, Bool.or_eq_false_iff, Bool.and_eq_true, Bool.or_eq_true, Bool.and_eq_false_iff, Bool.not_eq_true', Bool.not_eq_false', Lay.d_n]; omega) | (simp only [decide_eq_true_eq, decide_eq_false_iff_not, Bool.or_eq_false_iff, Bool.and_eq_true, Bool.or_eq_true, Bool.and_eq_false_iff, Bool.not_eq_true', Bool.not_eq_false']; omega))
          refine x_if (fun h8 => ?_) (fun h8 => ?_)
          · obtain ⟨h6, h7⟩ := Bool.and_eq_true_iff.1 h8
            have h6' : bt s k = q := of_decide_eq_true h6
            have h9 : j + 1 < k := of_decide_eq_true h7
            have h10 : ¬ q = 34 := fun h => by
              have h5' : (decide (bt s k = q) && decide (q = 34)) = false := h5
              rw [h6, decide_eq_true h] at h5'; cases h5'
            rw [if_pos h6', atE_one, lE, if_neg (by omega), if_neg h10, if_neg (by omega)] at g3
            repeat (refine And.intro ?_ ?_; first | omega | (simp only [Lay.d_n]; omega) | (simp only [decide_eq_true_eq, decide_eq_false_iff_not, Bool.or_eq_false_iff, Bool.and_eq_true, Bool.or_eq_true, Bool.and_eq_false_iff, Bool.not_eq_true', Bool.not_eq_false', Lay.d_n]; omega) | (simp only [decide_eq_true_eq, decide_eq_false_iff_not, Bool.or_eq_false_iff, Bool.and_eq_true, Bool.or_eq_true, Bool.and_eq_false_iff, Bool.not_eq_true', Bool.not_eq_false']; omega))
            rw [g3]
            exact fin1 (fun _ _ => rfl)
          · repeat (refine And.intro ?_ ?_; first | omega | (simp only [Lay.d_n]; omega) | (simp only [decide_eq_true_eq, decide_eq_false_iff_not, Bool.or_eq_false_iff, Bool.and_eq_true, Bool.or_eq_true, Bool.and_eq_false_iff, Bool.not_eq_true', Bool.not_eq_false', Lay.d_n]; omega) | (simp only [decide_eq_true_eq, decide_eq_false_iff_not, Bool.or_eq_false_iff, Bool.and_eq_true, Bool.or_eq_true, Bool.and_eq_false_iff, Bool.not_eq_true', Bool.not_eq_false']; omega))
            refine x_if (fun h11 => ?_) (fun h11 => ?_)
            · have h6' : bt s k = q := of_decide_eq_true h11
              have h10 : ¬ q = 34 := fun h => by
                have h5' : (decide (bt s k = q) && decide (q = 34)) = false := h5
                rw [h11, decide_eq_true h] at h5'; cases h5'
              have h12 : ¬ j + 1 < k := fun h => by
                have h8' : (decide (bt s k = q) && decide (j + 1 < k)) = false := h8
                rw [h11, decide_eq_true h] at h8'; cases h8'
              rw [if_pos h6', atE_one, lE, if_neg (by omega), if_neg h10, if_pos (by omega)] at g3
              rw [g3]
              exact fin1 (fun _ _ => rfl)
            · rw [if_neg (of_decide_eq_false h11)] at g3
              repeat (refine And.intro ?_ ?_; first | omega | (simp only [Lay.d_n]; omega) | (simp only [decide_eq_true_eq, decide_eq_false_iff_not, Bool.or_eq_false_iff, Bool.and_eq_true, Bool.or_eq_true, Bool.and_eq_false_iff, Bool.not_eq_true', Bool.not_eq_false', Lay.d_n]; omega) | (simp only [decide_eq_true_eq, decide_eq_false_iff_not, Bool.or_eq_false_iff, Bool.and_eq_true, Bool.or_eq_true, Bool.and_eq_false_iff, Bool.not_eq_true', Bool.not_eq_false']; omega))
              refine x_if (fun h12 => ?_) (fun h12 => ?_)
              · have h12' : (decide (bt s k = 92) && decide (k + 1 < (s.size : Int)) && decide (bt s (k + 1) ≠ 10)) = true := h12
                obtain ⟨h13, h14⟩ := Bool.and_eq_true_iff.1 h12'
                obtain ⟨h15, h16⟩ := Bool.and_eq_true_iff.1 h13
                have h16' := of_decide_eq_true h16
                rw [if_pos (of_decide_eq_true h15), tl_cons (by omega) h16'] at g3
                simp only at g3
                rw [if_neg (of_decide_eq_true h14), atE_up2] at g3
                repeat (refine And.intro ?_ ?_; first | omega | (simp only [Lay.d_n]; omega) | (simp only [decide_eq_true_eq, decide_eq_false_iff_not, Bool.or_eq_false_iff, Bool.and_eq_true, Bool.or_eq_true, Bool.and_eq_false_iff, Bool.not_eq_true', Bool.not_eq_false', Lay.d_n]; omega) | (simp only [decide_eq_true_eq, decide_eq_false_iff_not, Bool.or_eq_false_iff, Bool.and_eq_true, Bool.or_eq_true, Bool.and_eq_false_iff, Bool.not_eq_true', Bool.not_eq_false']; omega))
                refine again (k + 1 + 1) [] (.of rfl rfl rfl rfl rfl rfl) ⟨by omega, by omega, ?_⟩ (by omega)
                rw [show k + 1 + 1 = k + 2 by omega] at g3 ⊢
                exact g3
              · repeat (refine And.intro ?_ ?_; first | omega | (simp only [Lay.d_n]; omega) | (simp only [decide_eq_true_eq, decide_eq_false_iff_not, Bool.or_eq_false_iff, Bool.and_eq_true, Bool.or_eq_true, Bool.and_eq_false_iff, Bool.not_eq_true', Bool.not_eq_false', Lay.d_n]; omega) | (simp only [decide_eq_true_eq, decide_eq_false_iff_not, Bool.or_eq_false_iff, Bool.and_eq_true, Bool.or_eq_true, Bool.and_eq_false_iff, Bool.not_eq_true', Bool.not_eq_false']; omega))
                refine x_if (fun h17 => ?_) (fun h17 => ?_)
                · have h92 := of_decide_eq_true h17
                  rw [if_pos h92] at g3
                  have h12' : (decide (bt s k = 92) && decide (k + 1 < (s.size : Int)) && decide (bt s (k + 1) ≠ 10)) = false := h12
                  rw [h17, Bool.true_and] at h12'
                  have e : N = (0, 0) := by
                    rw [g3]
                    by_cases h18 : k + 1 < s.size
                    · rw [decide_eq_true h18, Bool.true_and] at h12'
                      rw [tl_cons (by omega) h18]
                      simp only
                      rw [if_pos (Classical.not_not.1 (of_decide_eq_false h12'))]; rfl
                    · rw [tl_nil (by omega)]; rfl
                  rw [e]
                  exact fin1 (fun _ _ => rfl)
                · rw [if_neg (of_decide_eq_false h17), atE_up] at g3
                  repeat (refine And.intro ?_ ?_; first | omega | (simp only [Lay.d_n]; omega) | (simp only [decide_eq_true_eq, decide_eq_false_iff_not, Bool.or_eq_false_iff, Bool.and_eq_true, Bool.or_eq_true, Bool.and_eq_false_iff, Bool.not_eq_true', Bool.not_eq_false', Lay.d_n]; omega) | (simp only [decide_eq_true_eq, decide_eq_false_iff_not, Bool.or_eq_false_iff, Bool.and_eq_true, Bool.or_eq_true, Bool.and_eq_false_iff, Bool.not_eq_true', Bool.not_eq_false']; omega))
                  exact again (k + 1) [] (.of rfl rfl rfl rfl rfl rfl) ⟨by omega, by omega, g3⟩ (by omega)
      · have e : N = (0, 0) := by
          rw [g3]
          by_cases h2 : k < s.size
          · have h' : (decide (k < (s.size : Int)) && decide (bt s k ≠ 10)) = false := h
            rw [decide_eq_true h2, Bool.true_and] at h'
            rw [tl_cons (by omega) h2, bodyN_cons, if_pos (Classical.not_not.1 (of_decide_eq_false h'))]; rfl
          · rw [tl_nil (by omega)]; rfl
        rw [e]
        exact fin1 (fun _ _ => rfl)
end Go.Proofs.Ytdonomneofdhfaa
namespace Go.Proofs.Ytdonomneofdhfaa
open Go.GV Go.RowKit
def orL : List ByteArray → ByteArray → Bool
  | [], _ => false
  | t :: r, s => decide (s = t) || orL r s
theorem orL_t {b : Bool} {s t : ByteArray} {r : List ByteArray} (e : b = orL (t :: r) s) (h : decide (s = t) = true) : b = true := by rw [e, orL, h]; rfl
theorem orL_f {b : Bool} {s t : ByteArray} {r : List ByteArray} (e : b = orL (t :: r) s) (h : decide (s = t) = false) : b = orL r s := by rw [e, orL, h]; rfl
theorem orL_map (s : ByteArray) : ∀ ls : List ByteArray, (ls.map bl).contains (bl s) = orL ls s
  | [] => rfl
  | t :: r => by
    rw [List.map_cons, List.contains_cons, orL_map s r, orL, bl_eq]
    congr 1
    rw [Bool.eq_iff_iff]; simp
def punA : List ByteArray := [⟨#[91]⟩, ⟨#[93]⟩, ⟨#[40]⟩, ⟨#[41]⟩, ⟨#[123]⟩, ⟨#[125]⟩, ⟨#[46]⟩, ⟨#[45, 62]⟩, ⟨#[43, 43]⟩, ⟨#[45, 45]⟩, ⟨#[38]⟩, ⟨#[42]⟩, ⟨#[43]⟩, ⟨#[45]⟩, ⟨#[126]⟩, ⟨#[33]⟩, ⟨#[47]⟩, ⟨#[37]⟩, ⟨#[60, 60]⟩, ⟨#[62, 62]⟩, ⟨#[60]⟩, ⟨#[62]⟩, ⟨#[60, 61]⟩, ⟨#[62, 61]⟩, ⟨#[61, 61]⟩, ⟨#[33, 61]⟩, ⟨#[94]⟩, ⟨#[124]⟩, ⟨#[38, 38]⟩, ⟨#[124, 124]⟩, ⟨#[63]⟩, ⟨#[58]⟩, ⟨#[59]⟩, ⟨#[46, 46, 46]⟩, ⟨#[61]⟩, ⟨#[42, 61]⟩, ⟨#[47, 61]⟩, ⟨#[37, 61]⟩, ⟨#[43, 61]⟩, ⟨#[45, 61]⟩, ⟨#[60, 60, 61]⟩, ⟨#[62, 62, 61]⟩, ⟨#[38, 61]⟩, ⟨#[94, 61]⟩, ⟨#[124, 61]⟩, ⟨#[44]⟩, ⟨#[35]⟩, ⟨#[35, 35]⟩, ⟨#[60, 58]⟩, ⟨#[58, 62]⟩, ⟨#[60, 37]⟩, ⟨#[37, 62]⟩, ⟨#[37, 58]⟩, ⟨#[37, 58, 37, 58]⟩]
theorem punA_eq : Lx.punS = punA.map bl := by decide
theorem isPun_or (s : ByteArray) : Lx.isPun (bl s) = orL punA s := by
  unfold Lx.isPun
  rw [punA_eq]; exact orL_map s _
set_option maxRecDepth 100000 in
theorem punct_any (s : ByteArray) (w : World) : Calls Try.prog 180 #[.string s] w (PureP w fun v _ => v = .bool (Lx.isPun (bl s))) := by
  have e := isPun_or s
  generalize Lx.isPun (bl s) = b at e ⊢
  unfold punA at e
  refine x_fun tt_ok Try.func180 rfl rfl [] 0 [.v (.string s)] rfl rfl rfl rfl (fun b hb => by cases hb) ?_
  refine x_vc tt_ok ?_
  refine x_if (fun h => ?_) (fun h => ?_)
  · refine x_ift h ?_
    rw [orL_t e h]
    exact fin1 (fun _ _ => rfl)
  replace e := orL_f e h
  clear h
  refine x_if (fun h => ?_) (fun h => ?_)
  · refine x_ift h ?_
    rw [orL_t e h]
    exact fin1 (fun _ _ => rfl)
  replace e := orL_f e h
  clear h
  refine x_if (fun h => ?_) (fun h => ?_)
  · refine x_ift h ?_
    rw [orL_t e h]
    exact fin1 (fun _ _ => rfl)
  replace e := orL_f e h
  clear h
  refine x_if (fun h => ?_) (fun h => ?_)
  · refine x_ift h ?_
    rw [orL_t e h]
    exact fin1 (fun _ _ => rfl)
  replace e := orL_f e h
  clear h
  refine x_if (fun h => ?_) (fun h => ?_)
  · refine x_ift h ?_
    rw [orL_t e h]
    exact fin1 (fun _ _ => rfl)
  replace e := orL_f e h
  clear h
  refine x_if (fun h => ?_) (fun h => ?_)
  · refine x_ift h ?_
    rw [orL_t e h]
    exact fin1 (fun _ _ => rfl)
  replace e := orL_f e h
  clear h
  refine x_if (fun h => ?_) (fun h => ?_)
  · refine x_ift h ?_
    rw [orL_t e h]
    exact fin1 (fun _ _ => rfl)
  replace e := orL_f e h
  clear h
  refine x_if (fun h => ?_) (fun h => ?_)
  · refine x_ift h ?_
    rw [orL_t e h]
    exact fin1 (fun _ _ => rfl)
  replace e := orL_f e h
  clear h
  refine x_if (fun h => ?_) (fun h => ?_)
  · refine x_ift h ?_
    rw [orL_t e h]
    exact fin1 (fun _ _ => rfl)
  replace e := orL_f e h
  clear h
  refine x_if (fun h => ?_) (fun h => ?_)
  · refine x_ift h ?_
    rw [orL_t e h]
    exact fin1 (fun _ _ => rfl)
  replace e := orL_f e h
  clear h
  refine x_if (fun h => ?_) (fun h => ?_)
  · refine x_ift h ?_
    rw [orL_t e h]
    exact fin1 (fun _ _ => rfl)
  replace e := orL_f e h
  clear h
  refine x_if (fun h => ?_) (fun h => ?_)
  · refine x_ift h ?_
    rw [orL_t e h]
    exact fin1 (fun _ _ => rfl)
  replace e := orL_f e h
  clear h
  refine x_if (fun h => ?_) (fun h => ?_)
  · refine x_ift h ?_
    rw [orL_t e h]
    exact fin1 (fun _ _ => rfl)
  replace e := orL_f e h
  clear h
  refine x_if (fun h => ?_) (fun h => ?_)
  · refine x_ift h ?_
    rw [orL_t e h]
    exact fin1 (fun _ _ => rfl)
  replace e := orL_f e h
  clear h
  refine x_if (fun h => ?_) (fun h => ?_)
  · refine x_ift h ?_
    rw [orL_t e h]
    exact fin1 (fun _ _ => rfl)
  replace e := orL_f e h
  clear h
  refine x_if (fun h => ?_) (fun h => ?_)
  · refine x_ift h ?_
    rw [orL_t e h]
    exact fin1 (fun _ _ => rfl)
  replace e := orL_f e h
  clear h
  refine x_if (fun h => ?_) (fun h => ?_)
  · refine x_ift h ?_
    rw [orL_t e h]
    exact fin1 (fun _ _ => rfl)
  replace e := orL_f e h
  clear h
  refine x_if (fun h => ?_) (fun h => ?_)
  · refine x_ift h ?_
    rw [orL_t e h]
    exact fin1 (fun _ _ => rfl)
  replace e := orL_f e h
  clear h
  refine x_if (fun h => ?_) (fun h => ?_)
  · refine x_ift h ?_
    rw [orL_t e h]
    exact fin1 (fun _ _ => rfl)
  replace e := orL_f e h
  clear h
  refine x_if (fun h => ?_) (fun h => ?_)
  · refine x_ift h ?_
    rw [orL_t e h]
    exact fin1 (fun _ _ => rfl)
  replace e := orL_f e h
  clear h
  refine x_if (fun h => ?_) (fun h => ?_)
  · refine x_ift h ?_
    rw [orL_t e h]
    exact fin1 (fun _ _ => rfl)
  replace e := orL_f e h
  clear h
  refine x_if (fun h => ?_) (fun h => ?_)
  · refine x_ift h ?_
    rw [orL_t e h]
    exact fin1 (fun _ _ => rfl)
  replace e := orL_f e h
  clear h
  refine x_if (fun h => ?_) (fun h => ?_)
  · refine x_ift h ?_
    rw [orL_t e h]
    exact fin1 (fun _ _ => rfl)
  replace e := orL_f e h
  clear h
  refine x_if (fun h => ?_) (fun h => ?_)
  · refine x_ift h ?_
    rw [orL_t e h]
    exact fin1 (fun _ _ => rfl)
  replace e := orL_f e h
  clear h
  refine x_if (fun h => ?_) (fun h => ?_)
  · refine x_ift h ?_
    rw [orL_t e h]
    exact fin1 (fun _ _ => rfl)
  replace e := orL_f e h
  clear h
  refine x_if (fun h => ?_) (fun h => ?_)
  · refine x_ift h ?_
    rw [orL_t e h]
    exact fin1 (fun _ _ => rfl)
  replace e := orL_f e h
  clear h
  refine x_if (fun h => ?_) (fun h => ?_)
  · refine x_ift h ?_
    rw [orL_t e h]
    exact fin1 (fun _ _ => rfl)
  replace e := orL_f e h
  clear h
  refine x_if (fun h => ?_) (fun h => ?_)
  · refine x_ift h ?_
    rw [orL_t e h]
    exact fin1 (fun _ _ => rfl)
  replace e := orL_f e h
  clear h
  refine x_if (fun h => ?_) (fun h => ?_)
  · refine x_ift h ?_
    rw [orL_t e h]
    exact fin1 (fun _ _ => rfl)
  replace e := orL_f e h
  clear h
  refine x_if (fun h => ?_) (fun h => ?_)
  · refine x_ift h ?_
    rw [orL_t e h]
    exact fin1 (fun _ _ => rfl)
  replace e := orL_f e h
  clear h
  refine x_if (fun h => ?_) (fun h => ?_)
  · refine x_ift h ?_
    rw [orL_t e h]
    exact fin1 (fun _ _ => rfl)
  replace e := orL_f e h
  clear h
  refine x_if (fun h => ?_) (fun h => ?_)
  · refine x_ift h ?_
    rw [orL_t e h]
    exact fin1 (fun _ _ => rfl)
  replace e := orL_f e h
  clear h
  refine x_if (fun h => ?_) (fun h => ?_)
  · refine x_ift h ?_
    rw [orL_t e h]
    exact fin1 (fun _ _ => rfl)
  replace e := orL_f e h
  clear h
  refine x_if (fun h => ?_) (fun h => ?_)
  · refine x_ift h ?_
    rw [orL_t e h]
    exact fin1 (fun _ _ => rfl)
  replace e := orL_f e h
  clear h
  refine x_if (fun h => ?_) (fun h => ?_)
  · refine x_ift h ?_
    rw [orL_t e h]
    exact fin1 (fun _ _ => rfl)
  replace e := orL_f e h
  clear h
  refine x_if (fun h => ?_) (fun h => ?_)
  · refine x_ift h ?_
    rw [orL_t e h]
    exact fin1 (fun _ _ => rfl)
  replace e := orL_f e h
  clear h
  refine x_if (fun h => ?_) (fun h => ?_)
  · refine x_ift h ?_
    rw [orL_t e h]
    exact fin1 (fun _ _ => rfl)
  replace e := orL_f e h
  clear h
  refine x_if (fun h => ?_) (fun h => ?_)
  · refine x_ift h ?_
    rw [orL_t e h]
    exact fin1 (fun _ _ => rfl)
  replace e := orL_f e h
  clear h
  refine x_if (fun h => ?_) (fun h => ?_)
  · refine x_ift h ?_
    rw [orL_t e h]
    exact fin1 (fun _ _ => rfl)
  replace e := orL_f e h
  clear h
  refine x_if (fun h => ?_) (fun h => ?_)
  · refine x_ift h ?_
    rw [orL_t e h]
    exact fin1 (fun _ _ => rfl)
  replace e := orL_f e h
  clear h
  refine x_if (fun h => ?_) (fun h => ?_)
  · refine x_ift h ?_
    rw [orL_t e h]
    exact fin1 (fun _ _ => rfl)
  replace e := orL_f e h
  clear h
  refine x_if (fun h => ?_) (fun h => ?_)
  · refine x_ift h ?_
    rw [orL_t e h]
    exact fin1 (fun _ _ => rfl)
  replace e := orL_f e h
  clear h
  refine x_if (fun h => ?_) (fun h => ?_)
  · refine x_ift h ?_
    rw [orL_t e h]
    exact fin1 (fun _ _ => rfl)
  replace e := orL_f e h
  clear h
  refine x_if (fun h => ?_) (fun h => ?_)
  · refine x_ift h ?_
    rw [orL_t e h]
    exact fin1 (fun _ _ => rfl)
  replace e := orL_f e h
  clear h
  refine x_if (fun h => ?_) (fun h => ?_)
  · refine x_ift h ?_
    rw [orL_t e h]
    exact fin1 (fun _ _ => rfl)
  replace e := orL_f e h
  clear h
  refine x_if (fun h => ?_) (fun h => ?_)
  · refine x_ift h ?_
    rw [orL_t e h]
    exact fin1 (fun _ _ => rfl)
  replace e := orL_f e h
  clear h
  refine x_if (fun h => ?_) (fun h => ?_)
  · refine x_ift h ?_
    rw [orL_t e h]
    exact fin1 (fun _ _ => rfl)
  replace e := orL_f e h
  clear h
  refine x_if (fun h => ?_) (fun h => ?_)
  · refine x_ift h ?_
    rw [orL_t e h]
    exact fin1 (fun _ _ => rfl)
  replace e := orL_f e h
  clear h
  refine x_if (fun h => ?_) (fun h => ?_)
  · refine x_ift h ?_
    rw [orL_t e h]
    exact fin1 (fun _ _ => rfl)
  replace e := orL_f e h
  clear h
  refine x_if (fun h => ?_) (fun h => ?_)
  · refine x_ift h ?_
    rw [orL_t e h]
    exact fin1 (fun _ _ => rfl)
  replace e := orL_f e h
  clear h
  refine x_if (fun h => ?_) (fun h => ?_)
  · refine x_ift h ?_
    rw [orL_t e h]
    exact fin1 (fun _ _ => rfl)
  replace e := orL_f e h
  clear h
  refine x_if (fun h => ?_) (fun h => ?_)
  · refine x_ift h ?_
    rw [orL_t e h]
    exact fin1 (fun _ _ => rfl)
  replace e := orL_f e h
  clear h
  refine x_if (fun h => ?_) (fun h => ?_)
  · refine x_ift h ?_
    rw [orL_t e h]
    exact fin1 (fun _ _ => rfl)
  replace e := orL_f e h
  clear h
  refine x_if (fun h => ?_) (fun h => ?_)
  · rw [orL_t e h]
    exact fin1 (fun _ _ => rfl)
  · rw [orL_f e h]
    exact fin1 (fun _ _ => rfl)
end Go.Proofs.Ytdonomneofdhfaa
namespace Go.Proofs.Ytdonomneofdhfaa
open Go.GV Go.RowKit
def punE (s : ByteArray) (i : Int) : Int := atE i (Lx.punN (tl s i))
theorem bl_part (s : ByteArray) {i n : Int} (h0 : 0 ≤ i) (hn : 0 ≤ n) (h : i + n ≤ s.size) : bl (sub s i (i + n)) = (tl s i).take n.toNat := by
  rw [bl_sub s h0 (by omega) h]; congr 1; omega
set_option maxRecDepth 100000 in
theorem pun_any (s : ByteArray) (i : Int) (h0 : 0 ≤ i) (h1 : i < s.size) (hz : s.size ≤ 140737488355328) (w : World) :
    Calls Try.prog 169 #[.string s, .int .i64 i] w (PureP w fun v _ => v = .int .i64 (punE s i)) := by
  refine x_fun tt_ok Try.func169 rfl rfl [] 0 [.v (.string s), .v (.int .i64 i)] rfl rfl rfl rfl (fun b hb => by cases hb) ?_
  refine x_vc tt_ok ?_
  repeat (refine And.intro ?_ ?_; first | omega | (simp only [Lay.d_n]; omega) | (simp only [decide_eq_true_eq, decide_eq_false_iff_not, Bool.or_eq_false_iff, Bool.and_eq_true, Bool.or_eq_true, Bool.and_eq_false_iff, Bool.not_eq_true', Bool.not_eq_false', Lay.d_n]; omega) | (simp only [decide_eq_true_eq, decide_eq_false_iff_not, Bool.or_eq_false_iff, Bool.and_eq_true, Bool.or_eq_true, Bool.and_eq_false_iff, Bool.not_eq_true', Bool.not_eq_false']; omega))
  refine xl_min rfl rfl rfl rfl rfl rfl ?_
  have hm : (if (s.size : Int) - i < 4 then (s.size : Int) - i else 4) = ((min 4 (tl s i).length : Nat) : Int) := by
    rw [tl_len]; split <;> omega
  rw [hm]
  refine xl_go tt_ok ?_
  have hl : (tl s i).length = s.size - i.toNat := tl_len s i
  refine x_loop (σ := Nat) (fun n => ⟨[(5, .v (.int .i64 n)), (1, .v (.int .i64 i)), (0, .v (.string s))], [], [], 0⟩)
    (fun n _ => n ≤ (tl s i).length ∧ punE s i = atE i (Lx.punDown n (tl s i))) (fun n => n) (fun _ => Nat.le_refl _) (min 4 (tl s i).length) [] (.of rfl rfl rfl rfl rfl rfl)
    ⟨Nat.min_le_right .., rfl⟩ ?_
  rintro n u hu ⟨g1, g2⟩
  refine x_vc tt_ok ?_
  refine x_if (fun h => ?_) (fun h => ?_)
  · have h2 : 0 < (n : Int) := of_decide_eq_true h
    obtain ⟨m, rfl⟩ : ∃ m, n = m + 1 := ⟨n - 1, by omega⟩
    repeat (refine And.intro ?_ ?_; first | omega | (simp only [Lay.d_n]; omega) | (simp only [decide_eq_true_eq, decide_eq_false_iff_not, Bool.or_eq_false_iff, Bool.and_eq_true, Bool.or_eq_true, Bool.and_eq_false_iff, Bool.not_eq_true', Bool.not_eq_false', Lay.d_n]; omega) | (simp only [decide_eq_true_eq, decide_eq_false_iff_not, Bool.or_eq_false_iff, Bool.and_eq_true, Bool.or_eq_true, Bool.and_eq_false_iff, Bool.not_eq_true', Bool.not_eq_false']; omega))
    refine xl_call0 (.bool (Lx.isPun ((tl s i).take (m + 1)))) rfl rfl rfl rfl fn180 rfl rfl (fun E w F _ => by
      have := punct_any (sub s i (i + ((m + 1 : Nat) : Int))) w
      rw [bl_part s h0 (by omega) (by omega), Int.toNat_natCast] at this; exact this) ?_
    refine xl_go tt_ok ?_
    refine x_if (fun h3 => ?_) (fun h3 => ?_)
    · simp only [Lx.punDown, h3] at g2
      repeat (refine And.intro ?_ ?_; first | omega | (simp only [Lay.d_n]; omega) | (simp only [decide_eq_true_eq, decide_eq_false_iff_not, Bool.or_eq_false_iff, Bool.and_eq_true, Bool.or_eq_true, Bool.and_eq_false_iff, Bool.not_eq_true', Bool.not_eq_false', Lay.d_n]; omega) | (simp only [decide_eq_true_eq, decide_eq_false_iff_not, Bool.or_eq_false_iff, Bool.and_eq_true, Bool.or_eq_true, Bool.and_eq_false_iff, Bool.not_eq_true', Bool.not_eq_false']; omega))
      have e : punE s i = i + ((m + 1 : Nat) : Int) := g2
      rw [e]
      exact fin1 (fun _ _ => rfl)
    · simp only [Lx.punDown, h3] at g2
      repeat (refine And.intro ?_ ?_; first | omega | (simp only [Lay.d_n]; omega) | (simp only [decide_eq_true_eq, decide_eq_false_iff_not, Bool.or_eq_false_iff, Bool.and_eq_true, Bool.or_eq_true, Bool.and_eq_false_iff, Bool.not_eq_true', Bool.not_eq_false', Lay.d_n]; omega) | (simp only [decide_eq_true_eq, decide_eq_false_iff_not, Bool.or_eq_false_iff, Bool.and_eq_true, Bool.or_eq_true, Bool.and_eq_false_iff, Bool.not_eq_true', Bool.not_eq_false']; omega))
      rw [show ((m + 1 : Nat) : Int) - 1 = (m : Int) by omega]
      exact again m [] (.of rfl rfl rfl rfl rfl rfl) ⟨by omega, g2⟩ (by omega)
  · have h2 : ¬ 0 < (n : Int) := of_decide_eq_false h
    obtain rfl : n = 0 := by omega
    have e : punE s i = 0 := g2
    rw [e]
    exact fin1 (fun _ _ => rfl)
def itV (i : Int) (t : Lx.Item) : Value := if t.err = 0 then .tuple #[.agg #[.int .i64 t.kind, .int .i64 i, .int .i64 (i + t.len)], .int .i64 0]
  else .tuple #[.agg #[.int .i64 0, .int .i64 0, .int .i64 0], .int .i64 t.err]
def longL (l : Lx.Bs) : Lx.Item :=
  if l.head? = some 10 then ⟨9, 1, 0⟩
  else if (Lx.bestL l).1 ≠ 0 then ⟨(Lx.bestL l).1, (Lx.bestL l).2, 0⟩
  else if Lx.qHead l = true then ⟨0, 0, 21⟩
  else ⟨6, 1, 0⟩
theorem atE_lt {i : Int} (h0 : 0 ≤ i) (n m : Nat) : decide (i + (m : Int) < atE i n) = decide (m < n) := by
  unfold atE
  by_cases h : n = 0
  · subst h; simp; omega
  · rw [if_neg h]
    by_cases h2 : m < n
    · rw [decide_eq_true h2, decide_eq_true (by omega)]
    · rw [decide_eq_false h2, decide_eq_false (by omega)]
def stp (k : Int) (n : Nat) (b : Int × Nat) : Int × Nat := if b.2 < n then (k, n) else b
theorem bestG_stp (l : Lx.Bs) : Lx.bestL l = stp 5 (Lx.punN l) (stp 2 (Lx.numN l) (stp 1 (Lx.wordN l) (stp (Lx.litQ l).1 (Lx.litQ l).2 (0, 0)))) := by
  rw [← Lx.bestG_eq]; rfl
theorem stp_t {i : Int} {n m : Nat} {k k0 : Int} (h0 : 0 ≤ i) (h : decide (i + (m : Int) < atE i n) = true) : ∃ n' : Nat, atE i n = i + n' ∧ (k, n') = stp k n (k0, m) := by
  rw [atE_lt h0] at h
  have h := of_decide_eq_true h
  exact ⟨n, by rw [atE, if_neg (by omega)], by rw [stp, if_pos h]⟩
theorem stp_f {i : Int} {n m : Nat} {k k0 : Int} (h0 : 0 ≤ i) (h : decide (i + (m : Int) < atE i n) = false) : (k0, m) = stp k n (k0, m) := by
  rw [atE_lt h0] at h
  rw [stp, if_neg (of_decide_eq_false h)]
set_option maxRecDepth 100000 in
theorem long_any (s : ByteArray) (i : Int) (h0 : 0 ≤ i) (h1 : i < s.size) (hz : s.size ≤ 140737488355328) (w : World) :
    Calls Try.prog 153 #[.string s, .int .i64 i] w (PureP w fun v _ => v = itV i (longL (tl s i))) := by
  have hT : tl s i = bt s i :: tl s (i + 1) := tl_cons h0 h1
  refine x_fun tt_ok Try.func153 rfl rfl [] 0 [.v (.string s), .v (.int .i64 i)] rfl rfl rfl rfl (fun b hb => by cases hb) ?_
  refine x_seq ?_
  refine x_vc tt_ok ?_
  refine x_seq ?_
  refine x_vc tt_ok ?_
  repeat (refine And.intro ?_ ?_; first | omega | (simp only [Lay.d_n]; omega) | (simp only [decide_eq_true_eq, decide_eq_false_iff_not, Bool.or_eq_false_iff, Bool.and_eq_true, Bool.or_eq_true, Bool.and_eq_false_iff, Bool.not_eq_true', Bool.not_eq_false', Lay.d_n]; omega) | (simp only [decide_eq_true_eq, decide_eq_false_iff_not, Bool.or_eq_false_iff, Bool.and_eq_true, Bool.or_eq_true, Bool.and_eq_false_iff, Bool.not_eq_true', Bool.not_eq_false']; omega))
  refine x_seq ?_
  refine x_vc tt_ok ?_
  refine x_if (fun h => ?_) (fun h => ?_)
  · have h10 := of_decide_eq_true h
    repeat (refine And.intro ?_ ?_; first | omega | (simp only [Lay.d_n]; omega) | (simp only [decide_eq_true_eq, decide_eq_false_iff_not, Bool.or_eq_false_iff, Bool.and_eq_true, Bool.or_eq_true, Bool.and_eq_false_iff, Bool.not_eq_true', Bool.not_eq_false', Lay.d_n]; omega) | (simp only [decide_eq_true_eq, decide_eq_false_iff_not, Bool.or_eq_false_iff, Bool.and_eq_true, Bool.or_eq_true, Bool.and_eq_false_iff, Bool.not_eq_true', Bool.not_eq_false']; omega))
    have e : itV i (longL (tl s i)) = .tuple #[.agg #[.int .i64 9, .int .i64 i, .int .i64 (i + 1)], .int .i64 0] := by
      unfold longL; rw [hT, h10]; rfl
    rw [e]
    exact fin1 (fun _ _ => rfl)
  · have h10 := of_decide_eq_false h
    clear h
    refine x_seq ?_
    refine x_vc tt_ok ?_
    repeat (refine And.intro ?_ ?_; first | omega | (simp only [Lay.d_n]; omega) | (simp only [decide_eq_true_eq, decide_eq_false_iff_not, Bool.or_eq_false_iff, Bool.and_eq_true, Bool.or_eq_true, Bool.and_eq_false_iff, Bool.not_eq_true', Bool.not_eq_false', Lay.d_n]; omega) | (simp only [decide_eq_true_eq, decide_eq_false_iff_not, Bool.or_eq_false_iff, Bool.and_eq_true, Bool.or_eq_true, Bool.and_eq_false_iff, Bool.not_eq_true', Bool.not_eq_false']; omega))
    refine x_cut (σ := Int × Int) (fun b => ⟨[(7, .p 1 0), (6, .v (.int .u8 (bt s i))), (4, .p 0 0), (1, .v (.int .i64 i)), (0, .v (.string s))], [],
        [(1, .box 129 [.v (.int .i64 b.1), .v (.int .i64 i), .v (.int .i64 b.2)]), (0, .box 129 [.v (.int .i64 0), .v (.int .i64 0), .v (.int .i64 0)])], 2⟩)
      (fun b _ => ∃ n : Nat, b.2 = i + n ∧ (b.1, n) = (stp (Lx.litQ (tl s i)).1 (Lx.litQ (tl s i)).2 (0, 0))) (fun _ => Nat.le_refl 2) ?_ ?_
    · refine x_vc tt_ok ?_
      refine xl_call0 (.tuple #[.int .i64 (litE s i).1, .int .i64 (litE s i).2]) rfl rfl rfl rfl fn166 rfl rfl (fun E w F _ => lit_any s i h0 h1 hz w) ?_
      refine xl_go tt_ok ?_
      refine x_if (fun h => ?_) (fun h => ?_)
      · have h' : decide (i + ((0 : Nat) : Int) < atE i (Lx.litQ (tl s i)).2) = true := by rw [show i + ((0 : Nat) : Int) = i by omega]; exact h
        obtain ⟨n, h2, h3⟩ := stp_t (k := (litE s i).1) (k0 := 0) h0 h'
        repeat (refine And.intro ?_ ?_; first | omega | (simp only [Lay.d_n]; omega) | (simp only [decide_eq_true_eq, decide_eq_false_iff_not, Bool.or_eq_false_iff, Bool.and_eq_true, Bool.or_eq_true, Bool.and_eq_false_iff, Bool.not_eq_true', Bool.not_eq_false', Lay.d_n]; omega) | (simp only [decide_eq_true_eq, decide_eq_false_iff_not, Bool.or_eq_false_iff, Bool.and_eq_true, Bool.or_eq_true, Bool.and_eq_false_iff, Bool.not_eq_true', Bool.not_eq_false']; omega))
        exact meet ((litE s i).1, (litE s i).2) [] (.of rfl rfl rfl rfl rfl rfl) ⟨n, h2, h3⟩
      · have h' : decide (i + ((0 : Nat) : Int) < atE i (Lx.litQ (tl s i)).2) = false := by rw [show i + ((0 : Nat) : Int) = i by omega]; exact h
        exact meet (0, i) [] (.of rfl rfl rfl rfl rfl rfl) ⟨0, by simp, stp_f h0 h'⟩
    · rintro ⟨kd, ed⟩ u1 hu1 ⟨n0, e0, hb⟩
      replace e0 : ed = i + (n0 : Int) := e0
      subst e0
      replace hb : (kd, n0) = (stp (Lx.litQ (tl s i)).1 (Lx.litQ (tl s i)).2 (0, 0)) := hb
      refine x_cut (σ := Int × Int) (fun b => ⟨[(7, .p 1 0), (6, .v (.int .u8 (bt s i))), (4, .p 0 0), (1, .v (.int .i64 i)), (0, .v (.string s))], [],
          [(1, .box 129 [.v (.int .i64 b.1), .v (.int .i64 i), .v (.int .i64 b.2)]), (0, .box 129 [.v (.int .i64 0), .v (.int .i64 0), .v (.int .i64 0)])], 2⟩)
        (fun b _ => ∃ n : Nat, b.2 = i + n ∧ (b.1, n) = (stp 1 (Lx.wordN (tl s i)) (stp (Lx.litQ (tl s i)).1 (Lx.litQ (tl s i)).2 (0, 0)))) (fun _ => Nat.le_refl 2) ?_ ?_
      · refine x_vc tt_ok ?_
        refine xl_call0 (.int .i64 (wordE s i)) rfl rfl rfl rfl fn167 rfl rfl (fun E w F _ => word_any s i h0 h1 hz w) ?_
        refine xl_go tt_ok ?_
        refine x_if (fun h => ?_) (fun h => ?_)
        · obtain ⟨n, h2, h3⟩ := stp_t (k := 1) (k0 := kd) h0 h
          rw [hb] at h3
          repeat (refine And.intro ?_ ?_; first | omega | (simp only [Lay.d_n]; omega) | (simp only [decide_eq_true_eq, decide_eq_false_iff_not, Bool.or_eq_false_iff, Bool.and_eq_true, Bool.or_eq_true, Bool.and_eq_false_iff, Bool.not_eq_true', Bool.not_eq_false', Lay.d_n]; omega) | (simp only [decide_eq_true_eq, decide_eq_false_iff_not, Bool.or_eq_false_iff, Bool.and_eq_true, Bool.or_eq_true, Bool.and_eq_false_iff, Bool.not_eq_true', Bool.not_eq_false']; omega))
          exact meet (1, (wordE s i)) [] (.of rfl rfl rfl rfl rfl rfl) ⟨n, h2, h3⟩
        · have h3 := stp_f (k := 1) (k0 := kd) h0 h
          exact meet (kd, i + (n0 : Int)) [] (.of rfl rfl rfl rfl rfl rfl) ⟨n0, rfl, h3.trans (by rw [hb])⟩
      · rintro ⟨kd, ed⟩ u2 hu2 ⟨n0, e0, hb⟩
        replace e0 : ed = i + (n0 : Int) := e0
        subst e0
        replace hb : (kd, n0) = (stp 1 (Lx.wordN (tl s i)) (stp (Lx.litQ (tl s i)).1 (Lx.litQ (tl s i)).2 (0, 0))) := hb
        refine x_cut (σ := Int × Int) (fun b => ⟨[(7, .p 1 0), (6, .v (.int .u8 (bt s i))), (4, .p 0 0), (1, .v (.int .i64 i)), (0, .v (.string s))], [],
            [(1, .box 129 [.v (.int .i64 b.1), .v (.int .i64 i), .v (.int .i64 b.2)]), (0, .box 129 [.v (.int .i64 0), .v (.int .i64 0), .v (.int .i64 0)])], 2⟩)
          (fun b _ => ∃ n : Nat, b.2 = i + n ∧ (b.1, n) = (stp 2 (Lx.numN (tl s i)) (stp 1 (Lx.wordN (tl s i)) (stp (Lx.litQ (tl s i)).1 (Lx.litQ (tl s i)).2 (0, 0))))) (fun _ => Nat.le_refl 2) ?_ ?_
        · refine x_vc tt_ok ?_
          refine xl_call0 (.int .i64 (numE s i)) rfl rfl rfl rfl fn168 rfl rfl (fun E w F _ => num_any s i h0 h1 hz w) ?_
          refine xl_go tt_ok ?_
          refine x_if (fun h => ?_) (fun h => ?_)
          · obtain ⟨n, h2, h3⟩ := stp_t (k := 2) (k0 := kd) h0 h
            rw [hb] at h3
            repeat (refine And.intro ?_ ?_; first | omega | (simp only [Lay.d_n]; omega) | (simp only [decide_eq_true_eq, decide_eq_false_iff_not, Bool.or_eq_false_iff, Bool.and_eq_true, Bool.or_eq_true, Bool.and_eq_false_iff, Bool.not_eq_true', Bool.not_eq_false', Lay.d_n]; omega) | (simp only [decide_eq_true_eq, decide_eq_false_iff_not, Bool.or_eq_false_iff, Bool.and_eq_true, Bool.or_eq_true, Bool.and_eq_false_iff, Bool.not_eq_true', Bool.not_eq_false']; omega))
            exact meet (2, (numE s i)) [] (.of rfl rfl rfl rfl rfl rfl) ⟨n, h2, h3⟩
          · have h3 := stp_f (k := 2) (k0 := kd) h0 h
            exact meet (kd, i + (n0 : Int)) [] (.of rfl rfl rfl rfl rfl rfl) ⟨n0, rfl, h3.trans (by rw [hb])⟩
        · rintro ⟨kd, ed⟩ u3 hu3 ⟨n0, e0, hb⟩
          replace e0 : ed = i + (n0 : Int) := e0
          subst e0
          replace hb : (kd, n0) = (stp 2 (Lx.numN (tl s i)) (stp 1 (Lx.wordN (tl s i)) (stp (Lx.litQ (tl s i)).1 (Lx.litQ (tl s i)).2 (0, 0)))) := hb
          refine x_cut (σ := Int × Int) (fun b => ⟨[(7, .p 1 0), (6, .v (.int .u8 (bt s i))), (4, .p 0 0), (1, .v (.int .i64 i)), (0, .v (.string s))], [],
              [(1, .box 129 [.v (.int .i64 b.1), .v (.int .i64 i), .v (.int .i64 b.2)]), (0, .box 129 [.v (.int .i64 0), .v (.int .i64 0), .v (.int .i64 0)])], 2⟩)
            (fun b _ => ∃ n : Nat, b.2 = i + n ∧ (b.1, n) = (stp 5 (Lx.punN (tl s i)) (stp 2 (Lx.numN (tl s i)) (stp 1 (Lx.wordN (tl s i)) (stp (Lx.litQ (tl s i)).1 (Lx.litQ (tl s i)).2 (0, 0)))))) (fun _ => Nat.le_refl 2) ?_ ?_
          · refine x_vc tt_ok ?_
            refine xl_call0 (.int .i64 (punE s i)) rfl rfl rfl rfl fn169 rfl rfl (fun E w F _ => pun_any s i h0 h1 hz w) ?_
            refine xl_go tt_ok ?_
            refine x_if (fun h => ?_) (fun h => ?_)
            · obtain ⟨n, h2, h3⟩ := stp_t (k := 5) (k0 := kd) h0 h
              rw [hb] at h3
              repeat (refine And.intro ?_ ?_; first | omega | (simp only [Lay.d_n]; omega) | (simp only [decide_eq_true_eq, decide_eq_false_iff_not, Bool.or_eq_false_iff, Bool.and_eq_true, Bool.or_eq_true, Bool.and_eq_false_iff, Bool.not_eq_true', Bool.not_eq_false', Lay.d_n]; omega) | (simp only [decide_eq_true_eq, decide_eq_false_iff_not, Bool.or_eq_false_iff, Bool.and_eq_true, Bool.or_eq_true, Bool.and_eq_false_iff, Bool.not_eq_true', Bool.not_eq_false']; omega))
              exact meet (5, (punE s i)) [] (.of rfl rfl rfl rfl rfl rfl) ⟨n, h2, h3⟩
            · have h3 := stp_f (k := 5) (k0 := kd) h0 h
              exact meet (kd, i + (n0 : Int)) [] (.of rfl rfl rfl rfl rfl rfl) ⟨n0, rfl, h3.trans (by rw [hb])⟩
          · rintro ⟨kd, ed⟩ u4 hu4 ⟨n0, e0, hb⟩
            replace e0 : ed = i + (n0 : Int) := e0
            subst e0
            replace hb : (kd, n0) = (stp 5 (Lx.punN (tl s i)) (stp 2 (Lx.numN (tl s i)) (stp 1 (Lx.wordN (tl s i)) (stp (Lx.litQ (tl s i)).1 (Lx.litQ (tl s i)).2 (0, 0))))) := hb
            rw [← bestG_stp] at hb
            have q1 : (Lx.bestL (tl s i)).1 = kd := by rw [← hb]
            have q2 : (Lx.bestL (tl s i)).2 = n0 := by rw [← hb]
            have hL : longL (tl s i) = if kd ≠ 0 then ⟨kd, n0, 0⟩ else if Lx.qHead (tl s i) = true then ⟨0, 0, 21⟩ else ⟨6, 1, 0⟩ := by
              unfold longL; rw [q1, q2, hT, List.head?_cons, if_neg (by simpa using h10)]
            rw [hT] at hL
            rw [hT, hL]
            refine x_vc tt_ok ?_
            refine x_if (fun h => ?_) (fun h => ?_)
            · rw [if_pos (of_decide_eq_true h)]
              exact fin1 (fun _ _ => rfl)
            · rw [if_neg (of_decide_eq_false h)]
              refine x_if (fun h2 => ?_) (fun h2 => ?_)
              · have h2' : Lx.qHead (bt s i :: tl s (i + 1)) = true := h2
                rw [if_pos h2']
                exact fin1 (fun _ _ => rfl)
              · have h2' : Lx.qHead (bt s i :: tl s (i + 1)) = false := h2
                rw [if_neg (by rw [h2']; simp)]
                repeat (refine And.intro ?_ ?_; first | omega | (simp only [Lay.d_n]; omega) | (simp only [decide_eq_true_eq, decide_eq_false_iff_not, Bool.or_eq_false_iff, Bool.and_eq_true, Bool.or_eq_true, Bool.and_eq_false_iff, Bool.not_eq_true', Bool.not_eq_false', Lay.d_n]; omega) | (simp only [decide_eq_true_eq, decide_eq_false_iff_not, Bool.or_eq_false_iff, Bool.and_eq_true, Bool.or_eq_true, Bool.and_eq_false_iff, Bool.not_eq_true', Bool.not_eq_false']; omega))
                exact fin1 (fun _ _ => rfl)
end Go.Proofs.Ytdonomneofdhfaa
namespace Go.Proofs
open Go.Shelf
def Try.lays137_ren : Go.Shelf.Ren := ⟨fun | 137 => 118 | 217 => 144 | 266 => 159 | n => n, fun | 9 => 9 | 5 => 5 | 3 => 3 | n => n, fun | n => n⟩
theorem Try.lays137 : Go.Proofs.Lays.n137 Try.prog Try.lays137_ren := {
  mixed := by kernel_rfl
  f137 := Try.func118.trans (congrArg some (by kernel_rfl))
  f217 := Try.func144.trans (congrArg some (by kernel_rfl))
  f266 := Try.func159.trans (congrArg some (by kernel_rfl))
  t3 := Try.underlying3
  a3 := Try.isAgg3
  z3 := Try.sizeOf3
  v3 := Try.zeroValue3
  t5 := Try.underlying5
  a5 := Try.isAgg5
  z5 := Try.sizeOf5
  v5 := Try.zeroValue5
  t9 := Try.underlying9
  a9 := Try.isAgg9
  z9 := Try.sizeOf9
  v9 := Try.zeroValue9 }
open Go.RowKit in
theorem Try.strings_IndexByte (s : ByteArray) (c : Int) (w : World) :
    Calls Try.prog 118 #[.string s, .int .u8 c] w fun e w' => e = .returned (.int .i64 (Lib.indexByte s.data.toList c.toNat.toUInt8)) ∧ w' = w := Any.strings_IndexByte Try.lays137 s c w
def Try.lays143_ren : Go.Shelf.Ren := ⟨fun | 143 => 152 | 219 => 165 | 217 => 144 | 225 => 175 | 224 => 176 | 267 => 177 | 266 => 159 | 314 => 187 | n => n, fun | 9 => 9 | 3 => 3 | 4 => 4 | 5 => 5 | 46 => 165 | 146 => 214 | 51 => 213 | n => n, fun | 1 => 0 | n => n⟩
theorem Try.lays143 : Go.Proofs.Lays.n143 Try.prog Try.lays143_ren := {
  mixed := by kernel_rfl
  f143 := Try.func152.trans (congrArg some (by kernel_rfl))
  f217 := Try.func144.trans (congrArg some (by kernel_rfl))
  f219 := Try.func165.trans (congrArg some (by kernel_rfl))
  f224 := Try.func176.trans (congrArg some (by kernel_rfl))
  f225 := Try.func175.trans (congrArg some (by kernel_rfl))
  f266 := Try.func159.trans (congrArg some (by kernel_rfl))
  f267 := Try.func177.trans (congrArg some (by kernel_rfl))
  f314 := Try.func187.trans (congrArg some (by kernel_rfl))
  t3 := Try.underlying3
  a3 := Try.isAgg3
  z3 := Try.sizeOf3
  v3 := Try.zeroValue3
  t4 := Try.underlying4
  a4 := Try.isAgg4
  z4 := Try.sizeOf4
  v4 := Try.zeroValue4
  t5 := Try.underlying5
  a5 := Try.isAgg5
  z5 := Try.sizeOf5
  v5 := Try.zeroValue5
  t9 := Try.underlying9
  a9 := Try.isAgg9
  z9 := Try.sizeOf9
  v9 := Try.zeroValue9
  t46 := Try.underlying165
  a46 := Try.isAgg165
  z46 := Try.sizeOf165
  v46 := Try.zeroValue165
  t51 := Try.underlying213
  a51 := Try.isAgg213
  z51 := Try.sizeOf213
  v51 := Try.zeroValue213
  t146 := Try.underlying214
  a146 := Try.isAgg214
  z146 := Try.sizeOf214
  v146 := Try.zeroValue214
  g1 := by kernel_rfl }
open Go.RowKit Go.Lib in
theorem Try.strings_Index (s sub : ByteArray) (m : Int) (w : World) (hs : s.size < 4294967281) (hm : w.cell? ⟨0, 0, none⟩ = some (.int .i64 m)) :
    Calls Try.prog 152 #[.string s, .string sub] w fun e w' => e = .returned (.int .i64 (Lib.index s.data.toList sub.data.toList)) ∧ w' = w := Any.strings_Index Try.lays143 s sub m w hs hm
def Try.laysM143_ren : Go.Shelf.Ren := ⟨fun | 143 => 152 | 219 => 165 | 217 => 144 | 225 => 175 | 224 => 176 | 267 => 177 | 266 => 159 | 314 => 187 | n => n, fun | 9 => 9 | 3 => 3 | 4 => 4 | 5 => 5 | 46 => 165 | 146 => 214 | 51 => 213 | n => n, fun | 1 => 0 | n => n⟩
theorem Try.laysM143 : Go.Proofs.LaysM.n143 Try.prog Try.laysM143_ren := {
  mixed := by kernel_rfl
  f143 := Try.func152.trans (congrArg some (by kernel_rfl))
  f217 := Try.func144.trans (congrArg some (by kernel_rfl))
  f219 := Try.func165.trans (congrArg some (by kernel_rfl))
  f224 := Try.func176.trans (congrArg some (by kernel_rfl))
  f225 := Try.func175.trans (congrArg some (by kernel_rfl))
  f266 := Try.func159.trans (congrArg some (by kernel_rfl))
  f267 := Try.func177.trans (congrArg some (by kernel_rfl))
  f314 := Try.func187.trans (congrArg some (by kernel_rfl))
  t3 := Try.underlying3
  a3 := Try.isAgg3
  z3 := Try.sizeOf3
  v3 := Try.zeroValue3
  t4 := Try.underlying4
  a4 := Try.isAgg4
  z4 := Try.sizeOf4
  v4 := Try.zeroValue4
  t5 := Try.underlying5
  a5 := Try.isAgg5
  z5 := Try.sizeOf5
  v5 := Try.zeroValue5
  t9 := Try.underlying9
  a9 := Try.isAgg9
  z9 := Try.sizeOf9
  v9 := Try.zeroValue9
  t46 := Try.underlying165
  a46 := Try.isAgg165
  z46 := Try.sizeOf165
  v46 := Try.zeroValue165
  t51 := Try.underlying213
  a51 := Try.isAgg213
  z51 := Try.sizeOf213
  v51 := Try.zeroValue213
  t146 := Try.underlying214
  a146 := Try.isAgg214
  z146 := Try.sizeOf214
  v146 := Try.zeroValue214
  g1 := by kernel_rfl
  i3 := by kernel_rfl
  i4 := by kernel_rfl
  i5 := by kernel_rfl
  i9 := by kernel_rfl
  i46 := by kernel_rfl
  i51 := by kernel_rfl
  i146 := by kernel_rfl
  m1 := by kernel_rfl
  s1_3 := fun w h => Go.Proofs.cell_of_shapedOpen_int (zero := #[.int .i64 0]) (t := 3) h (of_decide_eq_true (by kernel_rfl)) (by kernel_rfl) rfl (by kernel_rfl) (by kernel_rfl) Try.underlying3 }
end Go.Proofs
namespace Go.Proofs.Ytdonomneofdhfaa
open Go.GV Go.RowKit
def Glob (u : Im) : Prop := ∃ m, u.cell? ⟨0, 0, none⟩ = some (.int .i64 m)
theorem Glob.sub {u u' : Im} (h : Glob u) (hu : u.sub u') : Glob u' := by
  obtain ⟨m, h⟩ := h
  exact ⟨m, hu.cell h⟩
theorem Glob.imm {u : Im} {w : World} (h : Glob u) (hw : Imm u w) : Glob (im w) := h.sub ⟨fun b o hb => hw.h b o hb⟩
theorem pure_of {f : Nat} {args : Array Value} {w : World} {v : Value} (h : Calls Try.prog f args w fun e w' => e = .returned v ∧ w' = w) : Calls Try.prog f args w (PureP w fun x _ => x = v) := by
  refine h.mono ?_
  rintro e w' ⟨rfl, rfl⟩
  exact ⟨v, rfl, Below.refl _ _, rfl⟩
theorem index_open : ∀ l : List UInt8, (Lib.index l [42, 47] = -1 ∧ Lx.endC (l.map fun b => (b.toNat : Int)) = 0) ∨ (∃ n : Nat, Lib.index l [42, 47] = n ∧ Lx.endC (l.map fun b => (b.toNat : Int)) = n + 2)
  | [] => .inl ⟨rfl, rfl⟩
  | [a] => by
    left
    refine ⟨?_, rfl⟩
    have : ([42, 47] : List UInt8).isPrefixOf [a] = false := by
      simp [List.isPrefixOf]
    rw [Lib.index, this]; rfl
  | a :: b :: r => by
    have ih := index_open (b :: r)
    have e : ([42, 47] : List UInt8).isPrefixOf (a :: b :: r) = (decide ((a.toNat : Int) = 42) && decide ((b.toNat : Int) = 47)) := by
      have q : ∀ (x : UInt8) (k : UInt8), (k == x) = decide ((x.toNat : Int) = (k.toNat : Int)) := fun x k => by
        rw [Bool.eq_iff_iff]
        simp only [beq_iff_eq, decide_eq_true_eq]
        constructor
        · rintro rfl; rfl
        · intro h; exact (UInt8.toNat_inj.1 (Int.ofNat.inj h)).symm
      simp only [List.isPrefixOf, Bool.and_true]
      rw [q, q]; rfl
    rw [Lib.index, e]
    simp only [List.map_cons, Lx.endC]
    cases (decide ((a.toNat : Int) = 42) && decide ((b.toNat : Int) = 47)) with
    | true => exact .inr ⟨0, rfl, rfl⟩
    | false =>
      simp only [Bool.false_eq_true, if_false]
      simp only [List.map_cons] at ih
      rcases ih with ⟨h1, h2⟩ | ⟨n, h1, h2⟩
      · left
        rw [h1, h2]; exact ⟨rfl, rfl⟩
      · right
        refine ⟨n + 1, ?_, by rw [h2]⟩
        rw [h1]
        have : ((n : Int) == -1) = false := by simp
        rw [this]; simp
theorem indexByte_nl : ∀ l : List UInt8, (if Lib.indexByte l 10 < 0 then (l.length : Int) else Lib.indexByte l 10) = (Lx.run Lx.notNl (l.map fun b => (b.toNat : Int)) : Int)
  | [] => rfl
  | b :: r => by
    have ih := indexByte_nl r
    have hge := Lib.indexByte_ge r 10
    rw [Lib.indexByte, List.map_cons, run_cons]
    by_cases h : b = 10
    · subst h; rfl
    · have h1 : (b == 10) = false := by simpa using h
      have h2 : Lx.notNl (b.toNat : Int) = true := by
        unfold Lx.notNl
        rw [Bool.not_eq_true', decide_eq_false_iff_not]
        intro h3
        exact h (UInt8.toNat_inj.1 (Int.ofNat.inj h3))
      rw [h1, if_pos h2]
      simp only [Bool.false_eq_true, if_false, List.length_cons]
      by_cases h3 : Lib.indexByte r 10 = -1
      · rw [h3] at ih ⊢
        simp only [beq_self_eq_true, if_true] at ih ⊢
        rw [if_pos (by omega)] at ih ⊢
        omega
      · have h4 : (Lib.indexByte r 10 == -1) = false := by simpa using h3
        rw [h4]
        simp only [Bool.false_eq_true, if_false]
        rw [if_neg (by omega)] at ih ⊢
        omega
theorem isOpen_eq {s : ByteArray} {i : Int} (h0 : 0 ≤ i) (h1 : i ≤ s.size) : hasP (sub s i s.size) ⟨#[47, 42]⟩ = Lx.isOpen (tl s i) := by
  rw [hasP_bl, bl_rest s h0 h1]; rfl
theorem isLine_eq {s : ByteArray} {i : Int} (h0 : 0 ≤ i) (h1 : i ≤ s.size) : hasP (sub s i s.size) ⟨#[47, 47]⟩ = Lx.isLine (tl s i) := by
  rw [hasP_bl, bl_rest s h0 h1]; rfl
theorem isOpen_len {s : ByteArray} {i : Int} (h0 : 0 ≤ i) (h : Lx.isOpen (tl s i) = true) : i + 2 ≤ s.size := by
  have h := of_decide_eq_true h
  have := congrArg List.length h
  rw [List.length_take, tl_len] at this
  simp only [List.length_cons, List.length_nil] at this
  omega
theorem itemP_eq (hdr : Bool) (l : Lx.Bs) : Lx.itemP hdr l = if hdr = true ∧ 0 < Lx.hdrN l then ⟨7, Lx.hdrN l, 0⟩
    else if Lx.isOpen l = true then (match Lx.endC (l.drop 2) with
      | 0 => ⟨0, 0, 20⟩
      | n + 1 => ⟨8, n + 3, 0⟩)
    else if Lx.isLine l = true then ⟨8, Lx.run Lx.notNl l, 0⟩ else longL l := rfl
set_option maxRecDepth 100000 in
theorem item_any (s : ByteArray) (i : Int) (hdr : Bool) (h0 : 0 ≤ i) (h1 : i < s.size) (hz : s.size ≤ 4294967280) (w : World) (hg : Glob (im w)) :
    Calls Try.prog 132 #[.string s, .int .i64 i, .bool hdr] w (PureP w fun v _ => v = itV i (Lx.itemP hdr (tl s i))) := by
  have hz' : s.size ≤ 140737488355328 := by omega
  rw [itemP_eq]
  refine x_fun tt_ok Try.func132 rfl rfl [] 0 [.v (.string s), .v (.int .i64 i), .v (.bool hdr)] rfl rfl rfl rfl (fun b hb => by cases hb) ?_
  refine x_seq ?_
  refine x_vc tt_ok ?_
  refine x_cut (σ := Unit) (fun _ => ⟨[(6, .p 0 0), (1, .v (.int .i64 i)), (0, .v (.string s))], [],
      [(0, .box 129 [.v (.int .i64 0), .v (.int .i64 0), .v (.int .i64 0)])], 1⟩)
    (fun _ _ => ¬ (hdr = true ∧ 0 < Lx.hdrN (tl s i))) (fun _ => Nat.le_refl 1) ?_ ?_
  · refine x_vc tt_ok ?_
    refine x_if (fun h => ?_) (fun h => ?_)
    · refine xl_call0 (.int .i64 (hdrE s i)) rfl rfl rfl rfl fn150 rfl rfl (fun E w F _ => hdr_any s i h0 h1 hz' w) ?_
      refine xl_go tt_ok ?_
      refine x_if (fun h2 => ?_) (fun h2 => ?_)
      · have h3 : 0 < hdrE s i := of_decide_eq_true h2
        have h4 : 0 < Lx.hdrN (tl s i) := by
          unfold hdrE atE at h3
          split at h3 <;> omega
        rw [if_pos ⟨h, h4⟩]
        have e : hdrE s i = i + Lx.hdrN (tl s i) := by unfold hdrE atE; rw [if_neg (by omega)]
        rw [e]
        exact fin1 (fun _ _ => rfl)
      · have h3 : ¬ 0 < hdrE s i := of_decide_eq_false h2
        refine meet () [] (.of rfl rfl rfl rfl rfl rfl) ?_
        rintro ⟨_, h4⟩
        unfold hdrE atE at h3
        rw [if_neg (by omega)] at h3
        omega
    · exact meet () [] (.of rfl rfl rfl rfl rfl rfl) (fun ⟨h5, _⟩ => by rw [h] at h5; cases h5)
  · rintro _ u hu hn
    rw [if_neg hn]
    clear hn
    have hgu : Glob u := hg.sub hu.sub
    refine x_vc tt_ok ?_
    repeat (refine And.intro ?_ ?_; first | omega | (simp only [Lay.d_n]; omega) | (simp only [decide_eq_true_eq, decide_eq_false_iff_not, Bool.or_eq_false_iff, Bool.and_eq_true, Bool.or_eq_true, Bool.and_eq_false_iff, Bool.not_eq_true', Bool.not_eq_false', Lay.d_n]; omega) | (simp only [decide_eq_true_eq, decide_eq_false_iff_not, Bool.or_eq_false_iff, Bool.and_eq_true, Bool.or_eq_true, Bool.and_eq_false_iff, Bool.not_eq_true', Bool.not_eq_false']; omega))
    refine xl_call0 (.bool (Lx.isOpen (tl s i))) rfl rfl rfl rfl fn151 rfl rfl (fun E w F _ => by rw [← isOpen_eq h0 (by omega)]; exact hasP_any _ _ w) ?_
    refine xl_go tt_ok ?_
    refine x_if (fun h => ?_) (fun h => ?_)
    · rw [if_pos h]
      have hl := isOpen_len h0 h
      have hd : (tl s i).drop 2 = bl (sub s (i + 2) s.size) := by
        rw [tl_tl s h0, bl_rest s (by omega) (by omega)]; rfl
      rw [hd]
      repeat (refine And.intro ?_ ?_; first | omega | (simp only [Lay.d_n]; omega) | (simp only [decide_eq_true_eq, decide_eq_false_iff_not, Bool.or_eq_false_iff, Bool.and_eq_true, Bool.or_eq_true, Bool.and_eq_false_iff, Bool.not_eq_true', Bool.not_eq_false', Lay.d_n]; omega) | (simp only [decide_eq_true_eq, decide_eq_false_iff_not, Bool.or_eq_false_iff, Bool.and_eq_true, Bool.or_eq_true, Bool.and_eq_false_iff, Bool.not_eq_true', Bool.not_eq_false']; omega))
      have hi := index_open (sub s (i + 2) s.size).data.toList
      refine xl_call0 (.int .i64 (Lib.index (sub s (i + 2) s.size).data.toList [42, 47])) rfl rfl rfl rfl fn152 rfl rfl (fun E w F hs => by
        obtain ⟨m, hm⟩ := hgu.imm hs.imm
        refine pure_of (Try.strings_Index _ _ m w ?_ hm)
        have : ((sub s (i + 2) s.size).size : Int) = s.size - (i + 2) := sub_size (by omega) (by omega) (Int.le_refl _)
        omega) ?_
      refine xl_go tt_ok ?_
      have hbl : Lx.endC (bl (sub s (i + 2) s.size)) = Lx.endC ((sub s (i + 2) s.size).data.toList.map fun b => (b.toNat : Int)) := rfl
      rcases hi with ⟨e1, e2⟩ | ⟨n, e1, e2⟩
      · rw [e1, hbl, e2]
        refine x_ift rfl ?_
        exact fin1 (fun _ _ => rfl)
      · have hn := Lx.endC_le ((sub s (i + 2) s.size).data.toList.map fun b => (b.toNat : Int))
        rw [e2, List.length_map, Array.length_toList] at hn
        have hsz : ((sub s (i + 2) s.size).size : Int) = s.size - (i + 2) := sub_size (by omega) (by omega) (Int.le_refl _)
        have hsz2 : (sub s (i + 2) s.size).data.size = (sub s (i + 2) s.size).size := rfl
        rw [e1, hbl, e2]
        refine x_iff (decide_eq_false (by omega)) ?_
        repeat (refine And.intro ?_ ?_; first | omega | (simp only [Lay.d_n]; omega) | (simp only [decide_eq_true_eq, decide_eq_false_iff_not, Bool.or_eq_false_iff, Bool.and_eq_true, Bool.or_eq_true, Bool.and_eq_false_iff, Bool.not_eq_true', Bool.not_eq_false', Lay.d_n]; omega) | (simp only [decide_eq_true_eq, decide_eq_false_iff_not, Bool.or_eq_false_iff, Bool.and_eq_true, Bool.or_eq_true, Bool.and_eq_false_iff, Bool.not_eq_true', Bool.not_eq_false']; omega))
        refine fin1 (fun _ _ => ?_)
        show Value.tuple #[.agg #[.int .i64 8, .int .i64 i, .int .i64 (i + 2 + (n : Int) + 2)], .int .i64 0] = Value.tuple #[.agg #[.int .i64 8, .int .i64 i, .int .i64 (i + ((n + 1 + 3 : Nat) : Int))], .int .i64 0]
        rw [show i + 2 + (n : Int) + 2 = i + ((n + 1 + 3 : Nat) : Int) by omega]
    · rw [if_neg (by rw [h]; simp)]
      repeat (refine And.intro ?_ ?_; first | omega | (simp only [Lay.d_n]; omega) | (simp only [decide_eq_true_eq, decide_eq_false_iff_not, Bool.or_eq_false_iff, Bool.and_eq_true, Bool.or_eq_true, Bool.and_eq_false_iff, Bool.not_eq_true', Bool.not_eq_false', Lay.d_n]; omega) | (simp only [decide_eq_true_eq, decide_eq_false_iff_not, Bool.or_eq_false_iff, Bool.and_eq_true, Bool.or_eq_true, Bool.and_eq_false_iff, Bool.not_eq_true', Bool.not_eq_false']; omega))
      refine xl_call0 (.bool (Lx.isLine (tl s i))) rfl rfl rfl rfl fn151 rfl rfl (fun E w F _ => by rw [← isLine_eq h0 (by omega)]; exact hasP_any _ _ w) ?_
      refine xl_go tt_ok ?_
      refine x_if (fun h2 => ?_) (fun h2 => ?_)
      · rw [if_pos h2]
        repeat (refine And.intro ?_ ?_; first | omega | (simp only [Lay.d_n]; omega) | (simp only [decide_eq_true_eq, decide_eq_false_iff_not, Bool.or_eq_false_iff, Bool.and_eq_true, Bool.or_eq_true, Bool.and_eq_false_iff, Bool.not_eq_true', Bool.not_eq_false', Lay.d_n]; omega) | (simp only [decide_eq_true_eq, decide_eq_false_iff_not, Bool.or_eq_false_iff, Bool.and_eq_true, Bool.or_eq_true, Bool.and_eq_false_iff, Bool.not_eq_true', Bool.not_eq_false']; omega))
        have hi := indexByte_nl (sub s i s.size).data.toList
        have hsz : ((sub s i s.size).size : Int) = s.size - i := sub_size h0 (by omega) (Int.le_refl _)
        have hsz2 : ((sub s i s.size).data.toList.length : Int) = s.size - i := by rw [Array.length_toList]; exact hsz
        have hrun : (Lx.run Lx.notNl (tl s i) : Int) = (Lx.run Lx.notNl ((sub s i s.size).data.toList.map fun b => (b.toNat : Int)) : Int) := by
          rw [← bl_rest s h0 (by omega)]; rfl
        rw [← hrun, hsz2] at hi
        refine xl_call0 (.int .i64 (Lib.indexByte (sub s i s.size).data.toList 10)) rfl rfl rfl rfl fn118 rfl rfl (fun E w F hs => pure_of (Try.strings_IndexByte _ 10 w)) ?_
        refine xl_go tt_ok ?_
        obtain ⟨x, hx⟩ : ∃ x, x = Lib.indexByte (sub s i s.size).data.toList 10 := ⟨_, rfl⟩
        have hge := Lib.indexByte_ge (sub s i s.size).data.toList 10
        have hrl := Lx.run_le Lx.notNl (tl s i)
        rw [tl_len] at hrl
        rw [← hx] at hi hge ⊢
        have e : ∀ y : Int, y = (Lx.run Lx.notNl (tl s i) : Int) → itV i ⟨8, Lx.run Lx.notNl (tl s i), 0⟩ = Value.tuple #[.agg #[.int .i64 8, .int .i64 i, .int .i64 (i + y)], .int .i64 0] := by
          rintro y rfl; rfl
        refine x_if (fun h3 => ?_) (fun h3 => ?_)
        · rw [if_pos (of_decide_eq_true h3)] at hi
          repeat (refine And.intro ?_ ?_; first | omega | (simp only [Lay.d_n]; omega) | (simp only [decide_eq_true_eq, decide_eq_false_iff_not, Bool.or_eq_false_iff, Bool.and_eq_true, Bool.or_eq_true, Bool.and_eq_false_iff, Bool.not_eq_true', Bool.not_eq_false', Lay.d_n]; omega) | (simp only [decide_eq_true_eq, decide_eq_false_iff_not, Bool.or_eq_false_iff, Bool.and_eq_true, Bool.or_eq_true, Bool.and_eq_false_iff, Bool.not_eq_true', Bool.not_eq_false']; omega))
          rw [e _ hi]
          exact fin1 (fun _ _ => rfl)
        · rw [if_neg (of_decide_eq_false h3)] at hi
          repeat (refine And.intro ?_ ?_; first | omega | (simp only [Lay.d_n]; omega) | (simp only [decide_eq_true_eq, decide_eq_false_iff_not, Bool.or_eq_false_iff, Bool.and_eq_true, Bool.or_eq_true, Bool.and_eq_false_iff, Bool.not_eq_true', Bool.not_eq_false', Lay.d_n]; omega) | (simp only [decide_eq_true_eq, decide_eq_false_iff_not, Bool.or_eq_false_iff, Bool.and_eq_true, Bool.or_eq_true, Bool.and_eq_false_iff, Bool.not_eq_true', Bool.not_eq_false']; omega))
          rw [e _ hi]
          exact fin1 (fun _ _ => rfl)
      · rw [if_neg (by rw [h2]; simp)]
        by_cases he : (longL (tl s i)).err = 0
        · have hv : itV i (longL (tl s i)) = .tuple #[.agg #[.int .i64 (longL (tl s i)).kind, .int .i64 i, .int .i64 (i + (longL (tl s i)).len)], .int .i64 0] := if_pos he
          rw [hv]
          refine xl_call0 (.tuple #[.agg #[.int .i64 (longL (tl s i)).kind, .int .i64 i, .int .i64 (i + (longL (tl s i)).len)], .int .i64 0]) rfl rfl rfl rfl fn153 rfl rfl (fun E w F _ => by rw [← hv]; exact long_any s i h0 h1 hz' w) ?_
          refine xl_go tt_ok ?_
          exact fin1 (fun _ _ => rfl)
        · have hv : itV i (longL (tl s i)) = .tuple #[.agg #[.int .i64 0, .int .i64 0, .int .i64 0], .int .i64 (longL (tl s i)).err] := if_neg he
          rw [hv]
          refine xl_call0 (.tuple #[.agg #[.int .i64 0, .int .i64 0, .int .i64 0], .int .i64 (longL (tl s i)).err]) rfl rfl rfl rfl fn153 rfl rfl (fun E w F _ => by rw [← hv]; exact long_any s i h0 h1 hz' w) ?_
          refine xl_go tt_ok ?_
          exact fin1 (fun _ _ => rfl)
end Go.Proofs.Ytdonomneofdhfaa
namespace Go.Proofs.Ytdonomneofdhfaa
open Go.GV Go.RowKit
theorem after_any (st kd : Int) (t : ByteArray) (w : World) : Calls Try.prog 133 #[.int .i64 st, .int .i64 kd, .string t] w (PureP w fun v _ => v = .int .i64 (Lx.after st kd (bl t))) := by
  have e : Lx.after st kd (bl t) = if kd = 8 then st else if kd = 9 then 0
      else if (decide (st = 0) && decide (kd = 5) && (decide (t = ⟨#[35]⟩) || decide (t = ⟨#[37, 58]⟩))) = true then 1
      else if (decide (st = 1) && decide (kd = 1) && decide (t = ⟨#[105, 110, 99, 108, 117, 100, 101]⟩)) = true then 2 else 3 := by
    unfold Lx.after
    rw [bl_eq, bl_eq, bl_eq]
    have e1 : bl ⟨#[35]⟩ = [35] := rfl
    have e2 : bl ⟨#[37, 58]⟩ = [37, 58] := rfl
    have e3 : bl ⟨#[105, 110, 99, 108, 117, 100, 101]⟩ = [105, 110, 99, 108, 117, 100, 101] := rfl
    rw [e1, e2, e3]
    simp only [Bool.and_eq_true, Bool.or_eq_true, decide_eq_true_eq, and_assoc]
  rw [e]
  refine x_fun tt_ok Try.func133 rfl rfl [] 0 [.v (.int .i64 st), .v (.int .i64 kd), .v (.string t)] rfl rfl rfl rfl (fun b hb => by cases hb) ?_
  refine x_vc tt_ok ?_
  refine x_if (fun h => ?_) (fun h => ?_)
  · rw [if_pos (of_decide_eq_true h)]
    exact fin1 (fun _ _ => rfl)
  · rw [if_neg (of_decide_eq_false h)]
    refine x_if (fun h2 => ?_) (fun h2 => ?_)
    · rw [if_pos (of_decide_eq_true h2)]
      exact fin1 (fun _ _ => rfl)
    · rw [if_neg (of_decide_eq_false h2)]
      refine x_if (fun h3 => ?_) (fun h3 => ?_)
      · rw [if_pos h3]
        exact fin1 (fun _ _ => rfl)
      · rw [if_neg (fun h => Bool.noConfusion (h.symm.trans h3))]
        refine x_if (fun h4 => ?_) (fun h4 => ?_)
        · rw [if_pos h4]
          exact fin1 (fun _ _ => rfl)
        · rw [if_neg (fun h => Bool.noConfusion (h.symm.trans h4))]
          exact fin1 (fun _ _ => rfl)
def itA (s : ByteArray) (st i : Int) : List Lx.Tk := Lx.itemsF s.size st i.toNat (tl s i)
def itsOf (s : ByteArray) : List Lx.Tk := Lx.itemsL (bl s)
theorem itA_zero (s : ByteArray) : itA s 0 0 = itsOf s := by
  unfold itA itsOf Lx.itemsL
  rw [bl_len]; rfl
theorem itA_nil {s : ByteArray} {i st : Int} (h : s.size ≤ i) : itA s st i = [] := by
  unfold itA
  rw [tl_nil h, Lx.itemsF_nil]
def itm (s : ByteArray) (st i : Int) : Lx.Item := Lx.itemP (decide (st = 2)) (tl s i)
theorem itA_cons {s : ByteArray} {i st : Int} (h0 : 0 ≤ i) (h : i < s.size) : itA s st i = if Lx.white (bt s i) = true then itA s st (i + 1)
    else if (itm s st i).err ≠ 0 then [⟨0, 0, 0, (itm s st i).err⟩]
    else ⟨(itm s st i).kind, i.toNat, i.toNat + (itm s st i).len, 0⟩ :: itA s (Lx.after st (itm s st i).kind ((tl s i).take (itm s st i).len)) (i + (itm s st i).len) := by
  have hl := tl_len s i
  have hl1 := tl_len s (i + 1)
  obtain ⟨n, hn⟩ : ∃ n, s.size = n + 1 := ⟨s.size - 1, by omega⟩
  unfold itA
  conv => lhs; rw [hn, tl_cons h0 h, Lx.itemsF]
  rw [← tl_cons h0 h]
  cases hw : Lx.white (bt s i) with
  | true =>
    simp only [if_true]
    rw [Lx.itemsF_fuel n s.size _ _ _ (by omega) (by omega), show (i + 1).toNat = i.toNat + 1 by omega]
  | false =>
    simp only [Bool.false_eq_true, if_false]
    unfold itm
    split
    · rfl
    · congr 1
      rw [tl_tl s h0]
      have hl2 := tl_len s (i + (Lx.itemP (decide (st = 2)) (tl s i)).len)
      rename_i he
      have h1 := (Lx.itemP_le (decide (st = 2)) (l := tl s i) (by rw [tl_cons h0 h]; simp)).2 (by simpa using he)
      rw [Lx.itemsF_fuel n s.size _ _ _ (by omega) (by omega)]
      congr 1
      omega
def tkV (t : Lx.Tk) : Value × Value := (.agg #[.int .i64 t.kind, .int .i64 t.lo, .int .i64 t.hi], .int .i64 t.err)
theorem itm_le {s : ByteArray} {i st : Int} (h0 : 0 ≤ i) (h : i < s.size) (he : (itm s st i).err = 0) : 1 ≤ (itm s st i).len ∧ i + (itm s st i).len ≤ s.size := by
  have h1 := Lx.itemP_le (decide (st = 2)) (l := tl s i) (by rw [tl_cons h0 h]; simp)
  have h2 := h1.2 he
  have h3 := h1.1
  rw [tl_len] at h3
  unfold itm
  omega
set_option maxRecDepth 100000 in
theorem items_iter (s : ByteArray) (b : Nat) (u0 : Im) (hb : u0.h b = some (.cells #[.string s] 9 (0, 0))) (hg : Glob u0) (hz : s.size ≤ 4294967280) :
    Iter2 Try.prog 130 #[.pointer (some ⟨b, 0, none⟩)] ((itsOf s).map tkV) u0 := by
  refine x_iter2 tt_ok Try.func130 rfl rfl [(.slice (some ⟨b, 0, none⟩) 1 1, ⟨1, [fun _ => .string s]⟩)] [.e 1 1 0 0] (boxEnv b) (fun j x hj => ?_) rfl rfl (fun x hx => ?_) (fun x hx => ?_) (fun l Y Z u hu hR => ?_)
  · match j, hj with
    | 0, hj => cases hj; rfl
    | j + 1, hj => simp at hj
  · simp only [List.mem_singleton] at hx
    subst hx
    exact ⟨by simp, _, 1, 1, rfl, Int.le_refl _, by omega⟩
  · simp only [List.mem_singleton] at hx
    subst hx
    exact SlAt.box1 hb
  have hgu : Glob u := hg.sub hu.sub
  refine x_vc tt_ok ?_
  refine x_loop (σ := Nat × Int × Int) (fun (k, st, i) => ⟨[(4, .v (.int .i64 i)), (3, .v (.int .i64 st)), (1, .e 1 1 0 0), (0, .v (.func (.yield l) #[] #[]))], [], [(0, .gen (Y k).hp), (1, .sl ⟨1, [fun _ => .string s]⟩)], 2⟩)
    (fun (k, st, i) _ => 0 ≤ i ∧ i ≤ s.size ∧ ∃ pre, pre.length = k ∧ itsOf s = pre ++ itA s st i) (fun (_, _, i) => (s.size - i).toNat) (fun (_, _, _) => Nat.le_refl 2) (0, 0, 0) [] (.of rfl rfl rfl rfl rfl rfl)
    ⟨by omega, by omega, [], rfl, (itA_zero s).symm⟩ ?_
  rintro ⟨k, st, i⟩ u2 hu2 ⟨g1, g2, pre, g4, g5⟩
  refine x_vc tt_ok ?_
  repeat (refine And.intro ?_ ?_; first | omega | (simp only [Lay.d_n]; omega) | (simp only [decide_eq_true_eq, decide_eq_false_iff_not, Bool.or_eq_false_iff, Bool.and_eq_true, Bool.or_eq_true, Bool.and_eq_false_iff, Bool.not_eq_true', Bool.not_eq_false', Lay.d_n]; omega) | (simp only [decide_eq_true_eq, decide_eq_false_iff_not, Bool.or_eq_false_iff, Bool.and_eq_true, Bool.or_eq_true, Bool.and_eq_false_iff, Bool.not_eq_true', Bool.not_eq_false']; omega))
  refine x_if (fun h => ?_) (fun h => ?_)
  · have h2 : i < s.size := of_decide_eq_true h
    rw [itA_cons g1 h2] at g5
    repeat (refine And.intro ?_ ?_; first | omega | (simp only [Lay.d_n]; omega) | (simp only [decide_eq_true_eq, decide_eq_false_iff_not, Bool.or_eq_false_iff, Bool.and_eq_true, Bool.or_eq_true, Bool.and_eq_false_iff, Bool.not_eq_true', Bool.not_eq_false', Lay.d_n]; omega) | (simp only [decide_eq_true_eq, decide_eq_false_iff_not, Bool.or_eq_false_iff, Bool.and_eq_true, Bool.or_eq_true, Bool.and_eq_false_iff, Bool.not_eq_true', Bool.not_eq_false']; omega))
    refine xl_call0 (.bool (Lx.white (bt s i))) rfl rfl rfl rfl fn131 rfl rfl (fun E w F _ => white_any _ w) ?_
    refine xl_go tt_ok ?_
    refine x_if (fun h3 => ?_) (fun h3 => ?_)
    · rw [if_pos h3] at g5
      repeat (refine And.intro ?_ ?_; first | omega | (simp only [Lay.d_n]; omega) | (simp only [decide_eq_true_eq, decide_eq_false_iff_not, Bool.or_eq_false_iff, Bool.and_eq_true, Bool.or_eq_true, Bool.and_eq_false_iff, Bool.not_eq_true', Bool.not_eq_false', Lay.d_n]; omega) | (simp only [decide_eq_true_eq, decide_eq_false_iff_not, Bool.or_eq_false_iff, Bool.and_eq_true, Bool.or_eq_true, Bool.and_eq_false_iff, Bool.not_eq_true', Bool.not_eq_false']; omega))
      exact again (k, st, i + 1) [] (.of rfl rfl rfl rfl rfl rfl) ⟨by omega, by omega, pre, g4, g5⟩ (by simp only; omega)
    · rw [if_neg (by rw [h3]; simp)] at g5
      by_cases he : (itm s st i).err = 0
      · rw [if_neg (by simpa using he)] at g5
        have hv : itV i (itm s st i) = .tuple #[.agg #[.int .i64 (itm s st i).kind, .int .i64 i, .int .i64 (i + (itm s st i).len)], .int .i64 0] := if_pos he
        obtain ⟨m1, m2⟩ := itm_le g1 h2 he
        refine xl_call0 (.tuple #[.agg #[.int .i64 (itm s st i).kind, .int .i64 i, .int .i64 (i + (itm s st i).len)], .int .i64 0]) rfl rfl rfl rfl fn132 rfl rfl
          (fun E w F hs => by rw [← hv]; exact item_any s i (decide (st = 2)) g1 h2 hz w ((hgu.sub hu2.sub).imm hs.imm)) ?_
        refine xl_go tt_ok ?_
        have hx1 : ((itsOf s).map tkV)[k]? = some (.agg #[.int .i64 (itm s st i).kind, .int .i64 i, .int .i64 (i + (itm s st i).len)], .int .i64 0) := by
          rw [List.getElem?_map, g5, List.getElem?_append_right (by omega), g4, Nat.sub_self]
          simp only [List.getElem?_cons_zero, Option.map_some, tkV]
          rw [show ((i.toNat : Nat) : Int) = i by omega, show ((i.toNat + (itm s st i).len : Nat) : Int) = i + (itm s st i).len by omega]
        refine xl_yield2 (kY := 0) rfl hR rfl rfl rfl rfl rfl rfl rfl rfl hx1 ?_ ?_
        · refine xl_go tt_ok ?_
          refine x_iff rfl ?_
          refine x_draw mix (by kernel_rfl) (xd_go tt_ok ?_)
          repeat (refine And.intro ?_ ?_; first | omega | (simp only [Lay.d_n]; omega) | (simp only [decide_eq_true_eq, decide_eq_false_iff_not, Bool.or_eq_false_iff, Bool.and_eq_true, Bool.or_eq_true, Bool.and_eq_false_iff, Bool.not_eq_true', Bool.not_eq_false', Lay.d_n]; omega) | (simp only [decide_eq_true_eq, decide_eq_false_iff_not, Bool.or_eq_false_iff, Bool.and_eq_true, Bool.or_eq_true, Bool.and_eq_false_iff, Bool.not_eq_true', Bool.not_eq_false']; omega))
          refine xd_call0 (.int .i64 (Lx.after st (itm s st i).kind ((tl s i).take (itm s st i).len))) rfl rfl rfl rfl fn133 rfl rfl (fun _ E w F _ => by
            have := after_any st (itm s st i).kind (sub s i (i + (itm s st i).len)) w
            rw [bl_part s g1 (by omega) m2, Int.toNat_natCast] at this; exact this) ?_
          refine xd_go tt_ok ?_
          exact again (k + 1, Lx.after st (itm s st i).kind ((tl s i).take (itm s st i).len), i + (itm s st i).len) [] (.of rfl rfl rfl rfl rfl rfl)
            ⟨by omega, by omega, pre ++ [⟨(itm s st i).kind, i.toNat, i.toNat + (itm s st i).len, 0⟩], by rw [List.length_append, g4]; rfl, by rw [g5, List.append_assoc]; rfl⟩ (by simp only; omega)
        · refine xl_go tt_ok ?_
          refine x_ift rfl ?_
          exact .inr rfl
      · rw [if_pos he] at g5
        have hv : itV i (itm s st i) = .tuple #[.agg #[.int .i64 0, .int .i64 0, .int .i64 0], .int .i64 (itm s st i).err] := if_neg he
        refine xl_call0 (.tuple #[.agg #[.int .i64 0, .int .i64 0, .int .i64 0], .int .i64 (itm s st i).err]) rfl rfl rfl rfl fn132 rfl rfl
          (fun E w F hs => by rw [← hv]; exact item_any s i (decide (st = 2)) g1 h2 hz w ((hgu.sub hu2.sub).imm hs.imm)) ?_
        refine xl_go tt_ok ?_
        have hx1 : ((itsOf s).map tkV)[k]? = some (.agg #[.int .i64 0, .int .i64 0, .int .i64 0], .int .i64 (itm s st i).err) := by
          rw [List.getElem?_map, g5, List.getElem?_append_right (by omega), g4, Nat.sub_self]; rfl
        have hk : ((itsOf s).map tkV).length = k + 1 := by rw [List.length_map, g5, List.length_append, g4]; rfl
        refine xl_yield2 (kY := 0) rfl hR rfl rfl rfl rfl rfl rfl rfl rfl hx1 ?_ ?_
        · refine xl_go tt_ok ?_
          refine x_ift (by show (false || decide ((itm s st i).err ≠ 0)) = true; rw [decide_eq_true he]; rfl) ?_
          exact .inl (by rw [hk]; rfl)
        · refine xl_go tt_ok ?_
          refine x_ift rfl ?_
          exact .inr rfl
  · have h2 : ¬ (i < (s.size : Int)) := of_decide_eq_false h
    rw [itA_nil (by omega), List.append_nil] at g5
    have hk : ((itsOf s).map tkV).length = k := by rw [List.length_map, g5, g4]
    exact .inl (by rw [hk]; rfl)
theorem itemsFn_any (s : ByteArray) (w : World) : Calls Try.prog 100 #[.string s] w
    (PureP w fun v u => ∃ b, v = .func (.func 130) #[] #[.pointer (some ⟨b, 0, none⟩)] ∧ u.h b = some (.cells #[.string s] 9 (0, 0))) := by
  refine x_fun tt_ok Try.func100 rfl rfl [] 0 [.v (.string s)] rfl rfl rfl rfl (fun b hb => by cases hb) ?_
  refine x_vc tt_ok ?_
  refine finP (fun E w' F hs hu => ?_)
  obtain ⟨b, h1, h2⟩ := hs.boxNew (k := 0) rfl hu
  refine ⟨b, ?_, h2⟩
  simp [SV.den, tupV, ptrOf, h1]
end Go.Proofs.Ytdonomneofdhfaa
namespace Go.Proofs.Ytdonomneofdhfaa
open Go.GV Go.RowKit
theorem chain_len : ∀ {xs : List Lx.Tk} {i n : Nat}, Lx.chain i n xs → xs.length ≤ n - i + 1
  | [], _, _, _ => Nat.zero_le _
  | x :: r, i, n, h => by
    rcases h with ⟨h1, h2, h3, h4, h5⟩ | ⟨h1, h2⟩
    · have := chain_len h5
      simp only [List.length_cons]; omega
    · subst h2; simp
theorem its_len (s : ByteArray) : (itsOf s).length ≤ s.size + 1 := by
  have hc := chain_len (Lx.itemsF_chain (bl s).length 0 0 (bl s))
  rw [bl_len] at hc
  have : (Lx.itemsF s.size 0 0 (bl s)).length = (itsOf s).length := by unfold itsOf Lx.itemsL; rw [bl_len]
  omega
theorem chain_mem : ∀ {xs : List Lx.Tk} {i n : Nat}, Lx.chain i n xs → ∀ t ∈ xs, t.err ≠ 0 ∨ (t.err = 0 ∧ i ≤ t.lo ∧ t.lo < t.hi ∧ t.hi ≤ n)
  | [], _, _, _, t, ht => by cases ht
  | x :: r, i, n, h, t, ht => by
    rcases h with ⟨h1, h2, h3, h4, h5⟩ | ⟨h1, h2⟩
    · rcases List.mem_cons.1 ht with rfl | ht
      · exact .inr ⟨h1, h2, h3, h4⟩
      · rcases chain_mem h5 t ht with h | h
        · exact .inl h
        · exact .inr ⟨h.1, by omega, h.2.2⟩
    · subst h2
      rw [List.mem_singleton.1 ht]; exact .inl h1
theorem its_mem {s : ByteArray} {t : Lx.Tk} (h : t ∈ itsOf s) : t.err ≠ 0 ∨ (t.err = 0 ∧ t.lo < t.hi ∧ t.hi ≤ s.size) := by
  have hc := Lx.itemsF_chain (bl s).length 0 0 (bl s)
  rcases chain_mem hc t h with h | ⟨h1, _, h2, h3⟩
  · exact .inl h
  · rw [bl_len] at h3
    exact .inr ⟨h1, h2, by omega⟩
end Go.Proofs.Ytdonomneofdhfaa
namespace Go.GV
open Go.RowKit
theorem getD_set (L : Array Bool) (i j : Nat) (d : Bool) : (L.setIfInBounds i true).getD j d = if i = j ∧ i < L.size then true else L.getD j d := by
  simp only [Array.getD_eq_getD_getElem?, Array.getElem?_setIfInBounds]
  by_cases h : i = j
  · subst h
    by_cases h2 : i < L.size
    · simp [h2]
    · simp [h2]
  · simp [h]
theorem getD_ne {L : Array Bool} {i j : Nat} {d : Bool} (h : ¬ i = j) : (L.setIfInBounds i true).getD j d = L.getD j d := by
  rw [getD_set]; simp [h]
theorem getD_eq {L : Array Bool} {i : Nat} {d : Bool} (h : i < L.size) : (L.setIfInBounds i true).getD i d = true := by
  rw [getD_set]; simp [h]
theorem marks_size : ∀ (l : List Nat) (L : Array Bool), (marks L l).size = L.size
  | [], _ => rfl
  | i :: r, L => by rw [marks, marks_size r]; simp
theorem marks_getD : ∀ (l : List Nat) (L : Array Bool) (j : Nat) (d : Bool), (∀ i ∈ l, i < L.size) → (marks L l).getD j d = if j ∈ l then true else L.getD j d
  | [], _, _, _, _ => by simp [marks]
  | i :: r, L, j, d, h => by
    rw [marks, marks_getD r _ j d (fun x hx => by simpa using h x (List.mem_cons_of_mem _ hx)), getD_set]
    have hi := h i (List.mem_cons_self ..)
    by_cases h1 : j ∈ r
    · simp [h1]
    · by_cases h2 : i = j
      · subst h2; simp [h1, hi]
      · have : ¬ j = i := fun h => h2 h.symm
        simp [h1, h2, this]
def lexO (md : Region.Mode) (ops : Array Oper) : List Nat → Array Bool → Bool
  | [], _ => true
  | i :: r, L => (Region.ready md ops L).contains i && lexO md ops r (L.setIfInBounds i true)
def sucL (md : Region.Mode) (ops : Array Oper) (z : Nat) : List Nat → Bool
  | [] => true
  | i :: r => (decide (i = z) || r.any fun j => ((ops[j]?).map (·.after.any fun e => Region.binds md e && decide (e.on = i))).getD false) && sucL md ops z r
def outL (md : Region.Mode) (ops : Array Oper) (T : Array Bool) (z i0 : Nat) : Bool :=
  (List.range ops.size).all fun j => T.getD j true || decide (j = i0) || ((ops[j]?).map (·.after.any fun e => Region.binds md e && (decide (e.on = z) || !T.getD e.on false))).getD true
theorem lexO_split {md : Region.Mode} {ops : Array Oper} : ∀ (pre : List Nat) (i : Nat) (post : List Nat) (L : Array Bool), lexO md ops (pre ++ i :: post) L = true → i ∈ Region.ready md ops (marks L pre)
  | [], i, post, L, h => by
    simp only [List.nil_append, lexO, Bool.and_eq_true, List.contains_iff_mem] at h
    exact h.1
  | p :: pre, i, post, L, h => by
    simp only [List.cons_append, lexO, Bool.and_eq_true] at h
    exact lexO_split pre i post _ h.2
theorem sucL_all {md : Region.Mode} {ops : Array Oper} {z : Nat} {L : Array Bool} (hz : L.getD z false = true) : ∀ (l : List Nat), sucL md ops z l = true →
    (∀ j ∈ l, L.getD j false = true → ∀ o, ops[j]? = some o → ∀ e ∈ o.after, Region.binds md e = true → L.getD e.on false = true) → ∀ i ∈ l, L.getD i false = true
  | [], _, _, i, hi => by cases hi
  | p :: r, h, hD, i, hi => by
    simp only [sucL, Bool.and_eq_true, Bool.or_eq_true, decide_eq_true_eq, List.any_eq_true] at h
    have ih := sucL_all hz r h.2 (fun j hj => hD j (List.mem_cons_of_mem _ hj))
    rcases List.mem_cons.1 hi with rfl | hi
    · rcases h.1 with h1 | ⟨j, hj, h1⟩
      · rw [h1]; exact hz
      · cases ho : ops[j]? with
        | none => rw [ho] at h1; cases h1
        | some o =>
          rw [ho] at h1
          simp only [Option.map_some, Option.getD_some] at h1
          obtain ⟨e, he, h2⟩ := Array.any_eq_true'.1 h1
          simp only [Bool.and_eq_true, decide_eq_true_eq] at h2
          have := hD j (List.mem_cons_of_mem _ hj) (ih j hj) o ho e he h2.1
          rw [h2.2] at this; exact this
    · exact ih i hi
structure Mid (md : Region.Mode) (ops : Array Oper) (L0 : Array Bool) (l : List Nat) (L : Array Bool) : Prop where
  sz : L.size = L0.size
  lo : ∀ i, i ∉ l → L.getD i false = L0.getD i false
  dn : ∀ j ∈ l, L.getD j false = true → ∀ o, ops[j]? = some o → ∀ e ∈ o.after, Region.binds md e = true → L.getD e.on false = true
def unl (L : Array Bool) (l : List Nat) : Nat := (l.filter fun i => !L.getD i false).length
theorem unl_set {L : Array Bool} {i : Nat} (hi : i < L.size) (h : L.getD i false = false) : ∀ (l : List Nat), l.Nodup → i ∈ l → unl (L.setIfInBounds i true) l + 1 = unl L l
  | [], _, hm => by cases hm
  | p :: r, hnd, hm => by
    have hn := List.nodup_cons.1 hnd
    by_cases hp : p = i
    · subst hp
      have e : r.filter (fun j => !(L.setIfInBounds p true).getD j false) = r.filter (fun j => !L.getD j false) := by
        refine List.filter_congr fun j hj => ?_
        exact congrArg _ (getD_ne (fun h => hn.1 (h ▸ hj)))
      unfold unl
      rw [List.filter_cons, List.filter_cons, e, getD_eq hi, h]
      simp
    · have hm : i ∈ r := by
        rcases List.mem_cons.1 hm with h | h
        · exact absurd h.symm hp
        · exact h
      have ih := unl_set hi h r hn.2 hm
      unfold unl at ih ⊢
      rw [List.filter_cons, List.filter_cons, getD_ne (fun h => hp h.symm)]
      split
      · simp only [List.length_cons]; omega
      · exact ih
theorem unl_zero {L : Array Bool} : ∀ {l : List Nat}, unl L l = 0 ↔ ∀ i ∈ l, L.getD i false = true := by
  intro l
  unfold unl
  rw [List.length_eq_zero_iff, List.filter_eq_nil_iff]
  simp
theorem Mid.set {md : Region.Mode} {ops : Array Oper} {L0 L : Array Bool} {l : List Nat} (h : Mid md ops L0 l L) {i : Nat} (hi : i ∈ l) (hr : i ∈ Region.ready md ops L) (hsz : i < L.size) : Mid md ops L0 l (L.setIfInBounds i true) := by
  obtain ⟨h1, o, ho, h2⟩ := Go.mem_ready.1 hr
  refine ⟨by rw [Array.size_setIfInBounds]; exact h.sz, fun j hj => ?_, fun j hj hl o' ho' e he hb => ?_⟩
  · rw [getD_ne (fun hh : i = j => hj (hh ▸ hi))]; exact h.lo j hj
  · rw [getD_set]
    split
    · rfl
    · by_cases hji : i = j
      · subst hji
        rw [ho] at ho'; cases ho'
        exact h2 e he hb
      · rw [getD_ne hji] at hl
        exact h.dn j hj hl o' ho' e he hb
theorem Mid.last {md : Region.Mode} {ops : Array Oper} {L0 L : Array Bool} {l : List Nat} (h : Mid md ops L0 l L) (hl : ∀ i ∈ l, i < L0.size) (h0 : unl L l = 0) : L = marks L0 l := by
  have ha := unl_zero.1 h0
  refine Array.ext (by rw [marks_size, h.sz]) fun i h1 h2 => ?_
  have e1 : L.getD i false = L[i] := by simp [Array.getD, h1]
  have e2 : (marks L0 l).getD i false = (marks L0 l)[i] := by simp [Array.getD, h2]
  rw [← e1, ← e2, marks_getD l L0 i false hl]
  by_cases hi : i ∈ l
  · rw [if_pos hi]; exact ha i hi
  · rw [if_neg hi]; exact h.lo i hi
theorem Mid.inside {md : Region.Mode} {ops : Array Oper} {L0 L : Array Bool} {l : List Nat} {z i0 k : Nat} (h : Mid md ops L0 l L) (hl : ∀ i ∈ l, i < L0.size) (hz : z ∈ l) (hs : sucL md ops z l = true)
    (ho : outL md ops (marks L0 l) z i0 = true) (hk : unl L l = k + 1) {i : Nat} (hi : i ∈ Region.ready md ops L) : i = i0 ∨ i ∈ l := by
  obtain ⟨h1, o, hoi, h2⟩ := Go.mem_ready.1 hi
  have hzL : L.getD z false = false := by
    cases hzz : L.getD z false with
    | false => rfl
    | true => rw [unl_zero.2 (sucL_all hzz l hs h.dn)] at hk; omega
  have hout := List.all_eq_true.1 ho i (List.mem_range.2 (Array.getElem?_eq_some_iff.1 hoi).1)
  simp only [Bool.or_eq_true, decide_eq_true_eq] at hout
  rcases hout with (hout | hout) | hout
  · rw [marks_getD l L0 i true hl] at hout
    by_cases hil : i ∈ l
    · exact .inr hil
    · rw [if_neg hil] at hout
      exfalso
      have e := h.lo i hil
      by_cases hsz : i < L0.size
      · have e1 : L0.getD i true = L0.getD i false := by simp [Array.getD, hsz]
        have e2 : L.getD i true = L.getD i false := by
          have : i < L.size := by rw [h.sz]; exact hsz
          simp [Array.getD, this]
        rw [e1, ← e, ← e2, h1] at hout; cases hout
      · have : ¬ i < L.size := by rw [h.sz]; exact hsz
        simp [Array.getD, this] at h1
  · exact .inl hout
  · rw [hoi] at hout
    simp only [Option.map_some, Option.getD_some] at hout
    obtain ⟨e, he, h3⟩ := Array.any_eq_true'.1 hout
    simp only [Bool.and_eq_true, Bool.or_eq_true, decide_eq_true_eq, Bool.not_eq_true'] at h3
    have h4 := h2 e he h3.1
    rcases h3.2 with h5 | h5
    · rw [h5, hzL] at h4; cases h4
    · rw [marks_getD l L0 _ false hl] at h5
      split at h5
      · cases h5
      · rename_i hn; rw [h.lo _ hn, h5] at h4; cases h4
theorem ready_lt {md : Region.Mode} {ops : Array Oper} {L : Array Bool} {i : Nat} (h : i ∈ Region.ready md ops L) : i < L.size := by
  obtain ⟨h1, _⟩ := Go.mem_ready.1 h
  rcases Nat.lt_or_ge i L.size with h2 | h2
  · exact h2
  · have : ¬ i < L.size := by omega
    simp [Array.getD, this] at h1
theorem ready_un {md : Region.Mode} {ops : Array Oper} {L : Array Bool} {i : Nat} (h : i ∈ Region.ready md ops L) : L.getD i false = false := by
  have hlt := ready_lt h
  obtain ⟨h1, _⟩ := Go.mem_ready.1 h
  simpa [Array.getD, hlt] using h1
theorem phaseX_mid {md : Region.Mode} {ops : Array Oper} {L0 : Array Bool} {l : List Nat} {z i0 : Nat} (hl : ∀ i ∈ l, i < L0.size) (hnd : l.Nodup) (hz : z ∈ l) (hs : sucL md ops z l = true)
    (ho : outL md ops (marks L0 l) z i0 = true) : ∀ (k : Nat) (L : Array Bool), Mid md ops L0 l L → unl L l = k → phaseX md ops i0 (marks L0 l) k L = true
  | 0, L, h, hk => by
    rw [phaseX]; exact decide_eq_true (h.last hl hk)
  | k + 1, L, h, hk => by
    rw [phaseX, List.all_eq_true]
    intro i hi
    rcases h.inside hl hz hs ho hk hi with rfl | hil
    · simp
    · have := unl_set (ready_lt hi) (ready_un hi) l hnd hil
      rw [phaseX_mid hl hnd hz hs ho k _ (h.set hil hi (ready_lt hi)) (by omega)]; simp
theorem phaseB_mid {md : Region.Mode} {ops : Array Oper} {L0 : Array Bool} {l : List Nat} {z : Nat} (hl : ∀ i ∈ l, i < L0.size) (hnd : l.Nodup) (hz : z ∈ l) (hs : sucL md ops z l = true)
    (ho : outL md ops (marks L0 l) z ops.size = true) (hx : lexO md ops l L0 = true) : ∀ (k : Nat) (L : Array Bool), Mid md ops L0 l L → unl L l = k → phaseB md ops (marks L0 l) k L = true
  | 0, L, h, hk => by
    rw [phaseB]; exact decide_eq_true (h.last hl hk)
  | k + 1, L, h, hk => by
    rw [phaseB, Bool.and_eq_true, List.all_eq_true]
    constructor
    · have hsp : ∀ (post pre : List Nat), l = pre ++ post → (∀ i ∈ pre, L.getD i false = true) → unl L post ≠ 0 → ∃ i, i ∈ Region.ready md ops L := by
        intro post
        induction post with
        | nil => intro pre _ _ hne; exact absurd rfl hne
        | cons p post ih =>
          intro pre e hpre hne
          cases hp : L.getD p false with
          | true =>
            refine ih (pre ++ [p]) (by rw [e]; simp) (fun i hi => ?_) ?_
            · rcases List.mem_append.1 hi with hi | hi
              · exact hpre i hi
              · rw [List.mem_singleton.1 hi]; exact hp
            · intro h0
              apply hne
              rw [unl_zero] at h0 ⊢
              intro i hi
              rcases List.mem_cons.1 hi with rfl | hi
              · exact hp
              · exact h0 i hi
          | false =>
            have hr := lexO_split pre p post L0 (e ▸ hx)
            obtain ⟨h1, o, hop, h2⟩ := Go.mem_ready.1 hr
            have hps : p < L.size := by rw [h.sz]; exact hl p (by rw [e]; simp)
            refine ⟨p, Go.mem_ready.2 ⟨by simpa [Array.getD, hps] using hp, o, hop, fun e' he hb => ?_⟩⟩
            have h3 := h2 e' he hb
            rw [marks_getD pre L0 _ false (fun i hi => hl i (by rw [e]; simp [hi]))] at h3
            by_cases hm : e'.on ∈ pre
            · exact hpre _ hm
            · rw [if_neg hm] at h3
              by_cases hml : e'.on ∈ l
              · exfalso
                have hr2 := List.append_of_mem hml
                obtain ⟨a, c, ha⟩ := hr2
                have hra := lexO_split a e'.on c L0 (ha ▸ hx)
                have := ready_un hra
                rw [marks_getD a L0 _ false (fun i hi => hl i (by rw [ha]; simp [hi]))] at this
                split at this
                · cases this
                · rw [h3] at this; cases this
              · rw [h.lo _ hml]; exact h3
      obtain ⟨i, hi⟩ := hsp l [] rfl (fun i hi => by cases hi) (by rw [hk]; omega)
      cases hrr : Region.ready md ops L with
      | nil => rw [hrr] at hi; cases hi
      | cons a b => rfl
    · intro i hi
      rcases h.inside hl hz hs ho hk hi with rfl | hil
      · have hlt := (Array.getElem?_eq_some_iff.1 (Go.mem_ready.1 hi).2.choose_spec.1).1
        omega
      · have := unl_set (ready_lt hi) (ready_un hi) l hnd hil
        exact phaseB_mid hl hnd hz hs ho hx k _ (h.set hil hi (ready_lt hi)) (by omega)
def freshL (L0 : Array Bool) (l : List Nat) : Bool := l.all fun i => decide (i < L0.size) && !L0.getD i false
theorem Mid.start {md : Region.Mode} {ops : Array Oper} {L0 : Array Bool} {l : List Nat} (h : freshL L0 l = true) : Mid md ops L0 l L0 ∧ unl L0 l = l.length ∧ ∀ i ∈ l, i < L0.size := by
  have h := List.all_eq_true.1 h
  simp only [Bool.and_eq_true, decide_eq_true_eq, Bool.not_eq_true'] at h
  refine ⟨⟨rfl, fun _ _ => rfl, fun j hj hl => by rw [(h j hj).2] at hl; cases hl⟩, ?_, fun i hi => (h i hi).1⟩
  unfold unl
  rw [List.filter_eq_self.2 (fun i hi => by rw [(h i hi).2]; rfl)]
theorem phaseX_of {md : Region.Mode} {ops : Array Oper} {L0 : Array Bool} {l : List Nat} (z : Nat) {i0 : Nat} (hc : (freshL L0 l && decide l.Nodup && l.contains z && sucL md ops z l && outL md ops (marks L0 l) z i0) = true) :
    phaseX md ops i0 (marks L0 l) l.length L0 = true := by
  simp only [Bool.and_eq_true, decide_eq_true_eq, List.contains_iff_mem] at hc
  obtain ⟨⟨⟨⟨h1, h2⟩, h3⟩, h4⟩, h5⟩ := hc
  obtain ⟨m1, m2, m3⟩ := Mid.start (md := md) (ops := ops) h1
  exact phaseX_mid m3 h2 h3 h4 h5 _ _ m1 m2
theorem phaseB_of {md : Region.Mode} {ops : Array Oper} {L0 : Array Bool} {l : List Nat} (z : Nat) (hc : (freshL L0 l && decide l.Nodup && l.contains z && sucL md ops z l && outL md ops (marks L0 l) z ops.size && lexO md ops l L0) = true) :
    phaseB md ops (marks L0 l) l.length L0 = true := by
  simp only [Bool.and_eq_true, decide_eq_true_eq, List.contains_iff_mem] at hc
  obtain ⟨⟨⟨⟨⟨h1, h2⟩, h3⟩, h4⟩, h5⟩, h6⟩ := hc
  obtain ⟨m1, m2, m3⟩ := Mid.start (md := md) (ops := ops) h1
  exact phaseB_mid m3 h2 h3 h4 h5 h6 _ _ m1 m2
theorem xa_late2 {T : TT} {C : Cx} (hT : TOk C.P T) {ops : Array Oper} {Q : Post} {st : St} {u : Im} {fuel n d0 : Nat} {listed : Array Bool} {o0 : Oper} (i0 z : Nat) (l : List Nat) (hn : n = l.length + (fuel + 1))
    (ho : ops.toList[i0]? = some o0) (hd : o0.dst = some d0)
    (hsel : Region.noSelect ops = true) (ha : hasAll ops.toList (i0 :: l) = true) (hl : lexL .any ops (i0 :: l) listed = true) (hb : (freshL (listed.setIfInBounds i0 true) l && decide l.Nodup && l.contains z && sucL .any ops z l && outL .any ops (marks (listed.setIfInBounds i0 true) l) z ops.size && lexO .any ops l (listed.setIfInBounds i0 true)) = true)
    (hx : (freshL listed l && decide l.Nodup && l.contains z && sucL .any ops z l && outL .any ops (marks listed l) z i0) = true)
    (h : XD C ops.toList (opsAt ops.toList (i0 :: l)) (fun st => st.gk = [] ∧ XA C ops fuel (marks listed (i0 :: l)) Q st u ∧ XA C ops (fuel + 1) (marks listed l) Q ⟨forget d0 st.kn, [], st.ow, st.nx⟩ u) st u) : XA C ops n listed Q st u :=
  xa_late hT i0 l hn ho hd hsel ha hl (phaseB_of z hb) (phaseX_of z hx) h
end Go.GV
namespace Go.Proofs.Ytdonomneofdhfaa
open Go.GV Go.RowKit
noncomputable def pb (p : Prop) : Bool := @decide p (Classical.propDecidable p)
theorem pb_iff {p : Prop} : pb p = true ↔ p := by unfold pb; exact @decide_eq_true_iff p (Classical.propDecidable p)
theorem pb_true {p : Prop} (h : p) : pb p = true := pb_iff.2 h
theorem pb_false {p : Prop} (h : ¬ p) : pb p = false := by
  cases hb : pb p with
  | false => rfl
  | true => exact absurd (pb_iff.1 hb) h
structure Tok where
  kind : Int
  text : ByteArray
  lo : Int
  hi : Int
  space : Bool
def tok0 : Tok := ⟨0, ⟨#[]⟩, 0, 0, false⟩
abbrev tokY : Lay Tok := ⟨[fun t => .int .i64 t.kind, fun t => .string t.text, fun t => .int .i64 t.lo, fun t => .int .i64 t.hi, fun t => .bool t.space], tok0⟩
def gone (t : Tok) : Bool := decide (t.kind = 8) || decide (t.kind = 9)
def bareFrom (dr : Bool) : List Tok → List Tok
  | [] => []
  | t :: r => if gone t then bareFrom true r else { t with space := t.space || dr } :: bareFrom false r
theorem drop_at {α : Type} {L : List α} {i : Int} {d : α} (h0 : 0 ≤ i) (h : i < L.length) : L.drop i.toNat = L.getD i.toNat d :: L.drop (i + 1).toNat := by
  have hl : i.toNat < L.length := by omega
  rw [List.drop_eq_getElem_cons hl, show (i + 1).toNat = i.toNat + 1 by omega, List.getD_eq_getElem?_getD, List.getElem?_eq_getElem hl]; rfl
theorem bareFrom_le (dr : Bool) (L : List Tok) : (bareFrom dr L).length ≤ L.length := by
  induction L generalizing dr with
  | nil => simp [bareFrom]
  | cons t r ih =>
    simp only [bareFrom]
    split
    · have := ih true; simp; omega
    · have := ih false; simp; omega
set_option maxRecDepth 100000 in
theorem bare_any (L : List Tok) (x : Value) (w : World) (hx : SlAt (im w) x (tokY.d L)) (hL : L.length * 48 ≤ 140737488355328) :
    Calls Try.prog 46 #[x] w (PureP w fun v u => OwnAt u v 31 (tokY.d (bareFrom false L))) := by
  refine x_fun tt_ok Try.func46 rfl rfl [(x, tokY.d L)] 1 [.r 0] rfl rfl rfl rfl (fun b hb => by simp at hb; subst hb; exact hx) ?_
  refine x_vc tt_ok ?_
  refine x_nil 3 31 tokY rfl ?_
  refine x_loop (σ := Int × Bool × List Tok) (fun (i, dr, out) => ⟨[(9, .v (.int .i64 i)), (8, .v (.int .i64 L.length)), (7, .r 0), (4, .v (.bool dr)), (3, .r 2)], [], [(0, .sl (tokY.d L)), (2, .row 31 (tokY.d out))], 3⟩)
    (fun (i, dr, out) _ => 0 ≤ i ∧ i ≤ L.length ∧ out.length ≤ i ∧ out ++ bareFrom dr (L.drop i.toNat) = bareFrom false L) (fun (i, _, _) => (L.length - i).toNat) (fun (_, _, _) => by simp only; omega) (0, false, []) [(2, some 1)] (.of rfl rfl rfl rfl rfl rfl)
    ⟨by omega, by simp, by simp, by simp⟩ ?_
  rintro ⟨i, dr, out⟩ u hu ⟨g1, g2, g3, g4⟩
  refine x_vc tt_ok ?_
  refine x_if (fun h => ?_) (fun h => ?_)
  · have h2 : i < L.length := by simpa using h
    rw [drop_at (d := tok0) g1 h2] at g4
    repeat (refine And.intro ?_ ?_; first | omega | (simp [Lay.d] <;> omega))
    refine x_if (fun h3 => ?_) (fun h3 => ?_)
    · have h4 : gone (L.getD i.toNat tok0) = true := h3
      repeat (refine And.intro ?_ ?_; first | omega | (simp [Lay.d] <;> omega))
      refine again (i + 1, true, out) [] (.of rfl rfl rfl rfl rfl rfl) ⟨by omega, by omega, by omega, ?_⟩ (by simp only; omega)
      simpa only [bareFrom, h4, if_true] using g4
    · have h4 : gone (L.getD i.toNat tok0) = false := h3
      simp only [bareFrom, h4, Bool.false_eq_true, if_false] at g4
      refine xl_push tt_ok tokY out { L.getD i.toNat tok0 with space := (L.getD i.toNat tok0).space || dr } 48 rfl rfl rfl rfl rfl rfl rfl rfl rfl rfl rfl rfl (by kernel_rfl) rfl rfl rfl rfl rfl (fun n hn => by cases hn; decide) rfl rfl rfl (by omega) (by omega) ?_
      refine xl_go tt_ok ?_
      repeat (refine And.intro ?_ ?_; first | omega | (simp [Lay.d] <;> omega))
      refine again (i + 1, false, out ++ [{ L.getD i.toNat tok0 with space := (L.getD i.toNat tok0).space || dr }]) [(2, some 4)] (.of rfl rfl rfl rfl rfl rfl) ⟨by omega, by omega, by simp; omega, ?_⟩ (by simp only; omega)
      rw [List.append_assoc]
      exact g4
  · have h2 : i = L.length := by simp at h; omega
    have e : L.drop i.toNat = [] := List.drop_eq_nil_of_le (by omega)
    rw [e] at g4
    simp only [bareFrom, List.append_nil] at g4
    subst g4
    exact finO rfl
end Go.Proofs.Ytdonomneofdhfaa
namespace Go.Proofs.Ytdonomneofdhfaa
open Go.GV Go.RowKit
end Go.Proofs.Ytdonomneofdhfaa
namespace Go.Proofs.Ytdonomneofdhfaa
open Go.GV Go.RowKit
theorem tokOne : ∀ x : Tok, ∀ y ∈ tokY.el x, oneB y = true := by
  intro x y hy
  simp [Lay.el] at hy
  rcases hy with rfl | rfl | rfl | rfl | rfl <;> rfl
structure RowV where
  dir : Bool
  name : ByteArray
  ta : Option Addr
  tn : Nat
  tc : Nat
def row0 : RowV := ⟨false, ⟨#[]⟩, none, 0, 0⟩
abbrev rowY : Lay RowV := ⟨[fun r => .bool r.dir, fun r => .string r.name, fun r => .slice r.ta r.tn r.tc], row0⟩
def RowV.toks (r : RowV) : Value := .slice r.ta r.tn r.tc
def RowV.key (r : RowV) : Bool × ByteArray := (r.dir, r.name)
def ToksAt (u : Im) (L : List RowV) (T : List (List Tok)) : Prop := L.length = T.length ∧ ∀ i : Nat, i < L.length → SlAt u (L.getD i row0).toks (tokY.d (T.getD i []))
theorem ToksAt.sub {u u' : Im} {L : List RowV} {T : List (List Tok)} (h : ToksAt u L T) (hu : u.sub u') : ToksAt u' L T := ⟨h.1, fun i hi => (h.2 i hi).sub hu⟩
theorem ToksAt.push {u : Im} {L : List RowV} {T : List (List Tok)} {r : RowV} {t : List Tok} (h : ToksAt u L T) (hr : SlAt u r.toks (tokY.d t)) : ToksAt u (L ++ [r]) (T ++ [t]) := by
  refine ⟨by simp [h.1], fun i hi => ?_⟩
  simp only [List.length_append, List.length_cons, List.length_nil] at hi
  simp only [List.getD_eq_getElem?_getD]
  rcases Nat.lt_or_ge i L.length with hlt | hge
  · rw [List.getElem?_append_left hlt, List.getElem?_append_left (by rw [← h.1]; exact hlt)]
    have := h.2 i hlt
    simpa only [List.getD_eq_getElem?_getD] using this
  · have e : i = L.length := by omega
    have e2 : i = T.length := by rw [← h.1]; exact e
    rw [show (L ++ [r])[i]? = some r by subst e; simp, show (T ++ [t])[i]? = some t by subst e2; simp]
    exact hr
end Go.Proofs.Ytdonomneofdhfaa
namespace Go.Proofs.Ytdonomneofdhfaa
open Go.GV Go.RowKit
end Go.Proofs.Ytdonomneofdhfaa
namespace Go.Proofs.Ytdonomneofdhfaa
open Go.GV Go.RowKit
end Go.Proofs.Ytdonomneofdhfaa
namespace Go.Proofs.Ytdonomneofdhfaa
open Go.GV Go.RowKit
end Go.Proofs.Ytdonomneofdhfaa
namespace Go.Proofs.Ytdonomneofdhfaa
open Go.GV Go.RowKit
end Go.Proofs.Ytdonomneofdhfaa
namespace Go.Proofs.Ytdonomneofdhfaa
open Go.GV Go.RowKit
def saysV (r : RowV) (t : List Tok) : List Tok :=
  if r.dir = true then (bareFrom false t).drop (if r.name = ⟨#[]⟩ then 1 else 2) else bareFrom false t
end Go.Proofs.Ytdonomneofdhfaa
namespace Go.Proofs.Ytdonomneofdhfaa
open Go.GV Go.RowKit
def byC (c : Chr) : UInt8 := UInt8.ofNat c.b.toNat
def logB (s : ByteArray) : ByteArray := ⟨((charsOf s).map byC).toArray⟩
def errK : List Lx.Tk → Int
  | [] => 0
  | t :: r => if t.err ≠ 0 then t.err else errK r
def tks (C : List Chr) (l : ByteArray) : Int → List Lx.Tk → List Tok
  | _, [] => []
  | n, t :: r => ⟨t.kind, sub l t.lo t.hi, (C.getD t.lo charY.dft).pos, (C.getD ((t.hi : Int) - 1).toNat charY.dft).pos + (C.getD ((t.hi : Int) - 1).toNat charY.dft).len, decide (n < t.lo)⟩ :: tks C l t.hi r
def scanE (s : ByteArray) : Int := if checkE s ≠ 0 then checkE s else errK (itsOf (logB s))
def scanT (s : ByteArray) : List Tok := if scanE s = 0 then tks (charsOf s) (logB s) 0 (itsOf (logB s)) else []
theorem logB_size (s : ByteArray) : (logB s).size = (charsOf s).length := by
  show (((charsOf s).map byC).toArray).size = _
  simp
theorem third_range (c : Int) : 0 ≤ third c ∧ third c ≤ 255 := by
  unfold third
  (repeat' split) <;> (constructor <;> omega)
theorem partP_b (s : ByteArray) (i : Int) : 0 ≤ (partP s i).b ∧ (partP s i).b ≤ 255 := by
  unfold partP
  split
  · exact ⟨Int.le_refl _, by show (0 : Int) ≤ 255; decide⟩
  · show 0 ≤ chB s i ∧ chB s i ≤ 255
    unfold chB
    split
    · exact third_range _
    · exact bt_range s i
theorem partsF_b (s : ByteArray) : ∀ (n : Nat) (i : Int), ∀ p ∈ partsF s n i, 0 ≤ p.b ∧ p.b ≤ 255
  | 0, _, p, hp => by cases hp
  | n + 1, i, p, hp => by
    rw [partsF] at hp
    split at hp
    · rcases List.mem_cons.1 hp with rfl | hp
      · exact partP_b s i
      · exact partsF_b s n _ p hp
    · cases hp
theorem chrsL_b : ∀ (L : List Part), (∀ p ∈ L, 0 ≤ p.b ∧ p.b ≤ 255) → ∀ c ∈ chrsL L, 0 ≤ c.b ∧ c.b ≤ 255
  | [], _, c, hc => by cases hc
  | p :: r, h, c, hc => by
    rw [chrsL] at hc
    split at hc
    · exact chrsL_b r (fun p hp => h p (List.mem_cons_of_mem _ hp)) c hc
    · rcases List.mem_cons.1 hc with rfl | hc
      · exact h p (List.mem_cons_self ..)
      · exact chrsL_b r (fun p hp => h p (List.mem_cons_of_mem _ hp)) c hc
theorem charsOf_b {s : ByteArray} {c : Chr} (h : c ∈ charsOf s) : 0 ≤ c.b ∧ c.b ≤ 255 := by
  unfold charsOf at h
  split at h
  · exact chrsL_b _ (partsF_b s _ _) c h
  · cases h
theorem chrsL_mem : ∀ (L : List Part) (c : Chr), c ∈ chrsL L → ∃ p ∈ L, c = ⟨p.b, p.pos, p.len⟩
  | [], c, hc => by cases hc
  | p :: r, c, hc => by
    rw [chrsL] at hc
    split at hc
    · obtain ⟨q, hq, e⟩ := chrsL_mem r c hc
      exact ⟨q, List.mem_cons_of_mem _ hq, e⟩
    · rcases List.mem_cons.1 hc with rfl | hc
      · exact ⟨p, List.mem_cons_self .., rfl⟩
      · obtain ⟨q, hq, e⟩ := chrsL_mem r c hc
        exact ⟨q, List.mem_cons_of_mem _ hq, e⟩
theorem charsOf_pos {s : ByteArray} {c : Chr} (h : c ∈ charsOf s) : 0 ≤ c.pos ∧ 1 ≤ c.len ∧ c.pos + c.len ≤ s.size := by
  unfold charsOf at h
  split at h
  · obtain ⟨p, hp, rfl⟩ := chrsL_mem _ c h
    have := partsV_mem hp
    exact ⟨this.1, this.2.2.1, this.2.2.2.1⟩
  · cases h
theorem byC_nat {c : Chr} (h : 0 ≤ c.b ∧ c.b ≤ 255) : ((byC c).toNat : Int) = c.b := by
  unfold byC
  rw [UInt8.toNat_ofNat']
  omega
set_option maxRecDepth 100000 in
theorem scan_any (s : ByteArray) (w : World) (hs : s.size ≤ 9223372036854775807) (hg : Glob (im w)) : Calls Try.prog 41 #[.string s] w (PureP w (OwnT 31 (tokY.d (scanT s)) [.int .i64 (scanE s)])) := by
  refine x_fun tt_ok Try.func41 rfl rfl [] 0 [.v (.string s)] rfl rfl rfl rfl (fun b hb => by cases hb) ?_
  refine x_vc tt_ok ?_
  refine xl_callO2 136 (charY.d (charsOf s)) [.int .i64 (checkE s)] rfl rfl rfl rfl fn102 rfl rfl (fun E w F _ => chars_any s w hs) ?_
  refine xl_go tt_ok ?_
  refine x_if (fun h => ?_) (fun h => ?_)
  · have h := of_decide_eq_true h
    have e1 : scanE s = checkE s := by rw [scanE, if_pos h]
    have e2 : scanT s = [] := by rw [scanT, e1, if_neg h]
    rw [e1, e2]
    exact finO2n tokY
  · have h : checkE s = 0 := Classical.not_not.1 (of_decide_eq_false h)
    have hsz := checkE_size h
    have e1 : scanE s = errK (itsOf (logB s)) := by rw [scanE, if_neg (by simpa using h)]
    have hcl : (charsOf s).length ≤ 65536 := by
      have h2 : charsOf s = chrsL (partsV s) := by rw [charsOf, if_pos h]
      rw [h2]
      exact Nat.le_trans (chrsL_len _) (Nat.le_trans (partsV_len s) hsz)
    obtain ⟨C, hC⟩ : ∃ C, C = charsOf s := ⟨_, rfl⟩
    have hl : logB s = ⟨(C.map byC).toArray⟩ := by rw [hC]; rfl
    have hCb : ∀ c ∈ C, 0 ≤ c.b ∧ c.b ≤ 255 := fun c hc => charsOf_b (hC ▸ hc)
    have hCp : ∀ c ∈ C, 0 ≤ c.pos ∧ 1 ≤ c.len ∧ c.pos + c.len ≤ s.size := fun c hc => charsOf_pos (hC ▸ hc)
    have e2 : scanT s = if scanE s = 0 then tks C (logB s) 0 (itsOf (logB s)) else [] := by rw [hC]; rfl
    have hls := logB_size s
    rw [← hC] at hcl hls ⊢
    clear hC
    refine xl_makeN tt_ok byteY (0 : UInt8) (.int .u8 0) 1 C.length rfl rfl rfl rfl rfl rfl rfl rfl rfl rfl (by kernel_rfl) rfl rfl rfl (by omega) (by omega) ?_
    refine xl_go tt_ok ?_
    refine x_loop (σ := Int × List UInt8) (fun (k, L) => ⟨[(28, .v (.int .i64 k)), (27, .v (.int .i64 C.length)), (26, .r 2), (6, .r 4), (4, .p 3 0), (3, .p 1 0), (2, .p 0 0)], [],
        [(0, .box 22 [.v (.slice none 0 0)]), (1, .box 37 [.v (.int .i64 0)]), (2, .row 136 (charY.d C)), (3, .box 132 [.r 2]), (4, .row 5 (byteY.d L))], 5⟩)
      (fun (k, L) _ => 0 ≤ k ∧ k ≤ C.length ∧ L.length = C.length ∧ L.take k.toNat = (C.take k.toNat).map byC) (fun (k, _) => (C.length - k).toNat) (fun (_, _) => Nat.le_refl _) (0, List.replicate C.length 0) [] (.of rfl rfl rfl rfl rfl rfl)
      ⟨by omega, by omega, by simp, by simp⟩ ?_
    rintro ⟨k, L⟩ u hu ⟨g1, g2, g3, g4⟩
    refine x_vc tt_ok ?_
    refine x_if (fun h3 => ?_) (fun h3 => ?_)
    · have h3 : k < C.length := of_decide_eq_true h3
      have hkl : k.toNat < C.length := by omega
      have hm : C.getD k.toNat charY.dft ∈ C := by
        rw [List.getD_eq_getElem?_getD, List.getElem?_eq_getElem hkl]; exact List.getElem_mem _
      have hbn := byC_nat (hCb _ hm)
      repeat (refine And.intro ?_ ?_; first | omega | (simp only [Lay.d_n]; omega) | (simp only [decide_eq_true_eq, decide_eq_false_iff_not, Bool.or_eq_false_iff, Bool.and_eq_true, Bool.or_eq_true, Bool.and_eq_false_iff, Bool.not_eq_true', Bool.not_eq_false', Lay.d_n]; omega) | (simp only [decide_eq_true_eq, decide_eq_false_iff_not, Bool.or_eq_false_iff, Bool.and_eq_true, Bool.or_eq_true, Bool.and_eq_false_iff, Bool.not_eq_true', Bool.not_eq_false']; omega))
      refine xl_set tt_ok byteY L (byC (C.getD k.toNat charY.dft)) (cs := [.int .u8 (C.getD k.toNat charY.dft).b]) rfl rfl rfl rfl rfl rfl rfl g1 (by rw [g3]; exact h3) rfl rfl (Nat.le_refl 1) (by show [Value.int .u8 ((byC (C.getD k.toNat charY.dft)).toNat : Int)] = [Value.int .u8 (C.getD k.toNat charY.dft).b]; rw [hbn]) ?_
      refine xl_go tt_ok ?_
      repeat (refine And.intro ?_ ?_; first | omega | (simp only [Lay.d_n]; omega) | (simp only [decide_eq_true_eq, decide_eq_false_iff_not, Bool.or_eq_false_iff, Bool.and_eq_true, Bool.or_eq_true, Bool.and_eq_false_iff, Bool.not_eq_true', Bool.not_eq_false', Lay.d_n]; omega) | (simp only [decide_eq_true_eq, decide_eq_false_iff_not, Bool.or_eq_false_iff, Bool.and_eq_true, Bool.or_eq_true, Bool.and_eq_false_iff, Bool.not_eq_true', Bool.not_eq_false']; omega))
      refine again (k + 1, L.set k.toNat (byC (C.getD k.toNat charY.dft))) [] (.of rfl rfl rfl rfl rfl rfl) ⟨by omega, by omega, by rw [List.length_set]; exact g3, ?_⟩ (by simp only; omega)
      have hk : k.toNat < L.length := by omega
      rw [show (k + 1).toNat = k.toNat + 1 by omega, ← List.take_append_getElem (by rw [List.length_set]; exact hk), List.getElem_set_self, List.take_set_of_le (Nat.le_refl _), g4, ← List.take_append_getElem hkl, List.map_append]
      simp only [List.map_cons, List.map_nil, List.getD_eq_getElem?_getD, List.getElem?_eq_getElem hkl, Option.getD_some]
    · have h3 : ¬ k < C.length := of_decide_eq_false h3
      have hL : L = C.map byC := by
        rw [show k.toNat = C.length by omega, List.take_of_length_le (by omega), List.take_length] at g4; exact g4
      subst hL
      refine xl_bytesStr (C.map byC) rfl rfl rfl rfl Try.underlying61 Try.underlying5 Try.underlying9 rfl (fun E w F hs => hs.rowAt (k := 4) rfl) ?_
      rw [← hl]
      refine xl_go tt_ok ?_
      clear g4 g3
      generalize logB s = l at hls e1 e2 hl ⊢
      refine xl_call _ rfl rfl rfl rfl fn100 rfl rfl (fun E w F _ => itemsFn_any l w) (fun v u1 u2 hu2 hs2 hv => ?_)
      obtain ⟨bk, rfl, hbk⟩ := hv
      have hb2 := of_sub_cut hs2 hbk
      have hg2 : Glob u2 := (hg.sub hu.sub).sub hu2.sub
      refine xl_go tt_ok ?_
      refine x_nilCell 6 31 tokY [] [] rfl ?_
      refine x_range2 (σ := List Tok × Int) (τ := Int) rfl fn130 (items_iter l bk u2 hb2 hg2 (by omega)) [(11, .p 7 0), (10, .p 6 0), (9, .p 5 0), (4, .p 3 0), (3, .p 1 0), (2, .p 0 0)]
        (fun (T, n) => [(0, .box 22 [.v (.slice none 0 0)]), (1, .box 37 [.v (.int .i64 0)]), (2, .row 136 (charY.d C)), (3, .box 132 [.r 2]), (5, .box 9 [.v (.string l)]), (6, .box 22 [.r 10]), (7, .box 3 [.v (.int .i64 n)]), (10, .row 31 (tokY.d T))]) (fun _ => 11)
        (fun k (T, n) _ => T.length ≤ k ∧ errK (itsOf l) = errK ((itsOf l).drop k) ∧ tks C l 0 (itsOf l) = T ++ tks C l n ((itsOf l).drop k))
        (fun v => [(0, .box 22 [.v (.slice none 0 0)]), (1, .box 37 [.v (.int .i64 v)])]) (fun _ => 11)
        (fun v e _ => e = .ret ∧ errK (itsOf l) = v ∧ v ≠ 0) ([], 0) [(10, some 8)] (.of rfl rfl rfl rfl rfl rfl) ⟨Nat.le_refl _, rfl, rfl⟩ rfl
        (fun _ => rfl) (fun _ => rfl) (fun _ => by decide) (fun _ => by decide) rfl rfl (fun lb k x s' u3 Fr Fr' hx hu3 hgr => ?_) (fun s' u3 hu3 hgr => ?_) (fun v e u3 hu3 hgr => ?_)
      · obtain ⟨T, n⟩ := s'
        obtain ⟨g0, g1, g2⟩ := hgr
        rw [List.getElem?_map] at hx
        obtain ⟨t, ht, rfl⟩ := Option.map_eq_some_iff.1 hx
        rw [drop_get ht] at g1 g2
        have hm := its_mem (List.mem_of_getElem? ht)
        have hlen := its_len l
        have hk : k < (itsOf l).length := (List.getElem?_eq_some_iff.1 ht).1
        refine x_vc tt_ok ?_
        refine ⟨rfl, rfl, x_vc tt_ok ?_⟩
        refine x_if (fun h4 => ?_) (fun h4 => ?_)
        · have h4 := of_decide_eq_true h4
          rw [errK, if_pos h4] at g1
          exact ⟨t.err, [], .of rfl rfl rfl rfl rfl rfl, rfl, g1, h4⟩
        · have h4 : t.err = 0 := Classical.not_not.1 (of_decide_eq_false h4)
          rw [errK, if_neg (by simpa using h4)] at g1
          rw [tks] at g2
          have hm : t.lo < t.hi ∧ t.hi ≤ l.size := by
            rcases hm with hm | hm
            · exact absurd h4 hm
            · exact hm.2
          have q1 : (C.getD t.lo charY.dft) ∈ C := by
            rw [List.getD_eq_getElem?_getD, List.getElem?_eq_getElem (by omega : t.lo < C.length)]; exact List.getElem_mem _
          have q2 : (C.getD ((t.hi : Int) - 1).toNat charY.dft) ∈ C := by
            rw [List.getD_eq_getElem?_getD, List.getElem?_eq_getElem (by omega : ((t.hi : Int) - 1).toNat < C.length)]; exact List.getElem_mem _
          have q1 := hCp _ q1
          have q2 := hCp _ q2
          have next : (T ++ [(⟨t.kind, sub l t.lo t.hi, (C.getD t.lo charY.dft).pos, (C.getD ((t.hi : Int) - 1).toNat charY.dft).pos + (C.getD ((t.hi : Int) - 1).toNat charY.dft).len, decide (n < t.lo)⟩ : Tok)]).length ≤ k + 1 ∧ errK (itsOf l) = errK ((itsOf l).drop (k + 1)) ∧ tks C l 0 (itsOf l) = (T ++ [(⟨t.kind, sub l t.lo t.hi, (C.getD t.lo charY.dft).pos, (C.getD ((t.hi : Int) - 1).toNat charY.dft).pos + (C.getD ((t.hi : Int) - 1).toNat charY.dft).len, decide (n < t.lo)⟩ : Tok)]) ++ tks C l t.hi ((itsOf l).drop (k + 1)) :=
            ⟨by rw [List.length_append]; simp only [List.length_singleton]; omega, g1, by rw [g2, List.append_assoc]; rfl⟩
          repeat (refine And.intro ?_ ?_; first | omega | (simp only [Lay.d_n]; omega) | (simp only [decide_eq_true_eq, decide_eq_false_iff_not, Bool.or_eq_false_iff, Bool.and_eq_true, Bool.or_eq_true, Bool.and_eq_false_iff, Bool.not_eq_true', Bool.not_eq_false', Lay.d_n]; omega) | (simp only [decide_eq_true_eq, decide_eq_false_iff_not, Bool.or_eq_false_iff, Bool.and_eq_true, Bool.or_eq_true, Bool.and_eq_false_iff, Bool.not_eq_true', Bool.not_eq_false']; omega))
          refine x_drawA mix ?_
          refine xa_pures tt_ok (fuel := 21) [1, 4, 6, 10, 15, 17, 20] rfl (by kernel_rfl) (by kernel_rfl) (fun _ _ _ hh => hh) (by kernel_rfl) (by kernel_rfl) ?_
          refine xa_late2 tt_ok (fuel := 3) 0 24 [2, 3, 5, 7, 8, 9, 11, 12, 13, 14, 16, 18, 19, 21, 22, 23, 24] rfl rfl rfl (by kernel_rfl) (by kernel_rfl) (by kernel_rfl) (by kernel_rfl) (by kernel_rfl) (xd_go tt_ok ?_)
          repeat (refine And.intro ?_ ?_; first | omega | (simp only [Lay.d_n]; omega) | (simp only [decide_eq_true_eq, decide_eq_false_iff_not, Bool.or_eq_false_iff, Bool.and_eq_true, Bool.or_eq_true, Bool.and_eq_false_iff, Bool.not_eq_true', Bool.not_eq_false', Lay.d_n]; omega) | (simp only [decide_eq_true_eq, decide_eq_false_iff_not, Bool.or_eq_false_iff, Bool.and_eq_true, Bool.or_eq_true, Bool.and_eq_false_iff, Bool.not_eq_true', Bool.not_eq_false']; omega))
          refine ⟨rfl, ?_, ?_⟩
          · refine xa_chain (fuel := 1) [25, 26] rfl rfl (by kernel_rfl) ?_
            refine xl_push tt_ok tokY T (⟨t.kind, sub l t.lo t.hi, (C.getD t.lo charY.dft).pos, (C.getD ((t.hi : Int) - 1).toNat charY.dft).pos + (C.getD ((t.hi : Int) - 1).toNat charY.dft).len, decide (n < t.lo)⟩ : Tok) 48 rfl rfl rfl rfl rfl rfl rfl rfl rfl rfl rfl rfl (by kernel_rfl) rfl rfl rfl rfl rfl (fun n hn => by cases hn; decide) rfl rfl rfl (by omega) (by omega) ?_
            refine xl_end ?_
            refine xa_one 27 (by kernel_rfl) rfl (xl_go tt_ok ?_)
            refine xa_done (by kernel_rfl) rfl ?_
            exact ⟨(T ++ [(⟨t.kind, sub l t.lo t.hi, (C.getD t.lo charY.dft).pos, (C.getD ((t.hi : Int) - 1).toNat charY.dft).pos + (C.getD ((t.hi : Int) - 1).toNat charY.dft).len, decide (n < t.lo)⟩ : Tok)], (t.hi : Int)), [(10, some 13)], .of rfl rfl rfl rfl rfl rfl, next⟩
          · refine xa_two 0 25 (by kernel_rfl) rfl rfl (xl_go tt_ok ?_) ?_
            · refine xa_chain (fuel := 1) [25, 26] rfl rfl (by kernel_rfl) ?_
              refine xl_push tt_ok tokY T (⟨t.kind, sub l t.lo t.hi, (C.getD t.lo charY.dft).pos, (C.getD ((t.hi : Int) - 1).toNat charY.dft).pos + (C.getD ((t.hi : Int) - 1).toNat charY.dft).len, decide (n < t.lo)⟩ : Tok) 48 rfl rfl rfl rfl rfl rfl rfl rfl rfl rfl rfl rfl (by kernel_rfl) rfl rfl rfl rfl rfl (fun n hn => by cases hn; decide) rfl rfl rfl (by omega) (by omega) ?_
              refine xl_end ?_
              refine xa_one 27 (by kernel_rfl) rfl (xl_go tt_ok ?_)
              refine xa_done (by kernel_rfl) rfl ?_
              exact ⟨(T ++ [(⟨t.kind, sub l t.lo t.hi, (C.getD t.lo charY.dft).pos, (C.getD ((t.hi : Int) - 1).toNat charY.dft).pos + (C.getD ((t.hi : Int) - 1).toNat charY.dft).len, decide (n < t.lo)⟩ : Tok)], (t.hi : Int)), [(10, some 13)], .of rfl rfl rfl rfl rfl rfl, next⟩
            · refine xl_build tt_ok tokY [(⟨t.kind, sub l t.lo t.hi, (C.getD t.lo charY.dft).pos, (C.getD ((t.hi : Int) - 1).toNat charY.dft).pos + (C.getD ((t.hi : Int) - 1).toNat charY.dft).len, decide (n < t.lo)⟩ : Tok)] [_] rfl rfl rfl rfl rfl rfl rfl rfl rfl rfl rfl rfl rfl rfl rfl ?_
              refine xl_end ?_
              refine xa_one 0 (by kernel_rfl) rfl (xl_go tt_ok ?_)
              refine xa_one 26 (by kernel_rfl) rfl ?_
              refine xl_append tt_ok tokY T [(⟨t.kind, sub l t.lo t.hi, (C.getD t.lo charY.dft).pos, (C.getD ((t.hi : Int) - 1).toNat charY.dft).pos + (C.getD ((t.hi : Int) - 1).toNat charY.dft).len, decide (n < t.lo)⟩ : Tok)] 48 rfl rfl rfl rfl rfl rfl rfl rfl (by kernel_rfl) rfl rfl rfl (fun E w F hs => hs.rowAt (k := 13) rfl) tokOne rfl (by simp only [List.length_singleton]; omega) (by simp only [List.length_singleton]; omega) ?_
              refine xl_end ?_
              refine xa_one 27 (by kernel_rfl) rfl (xl_go tt_ok ?_)
              refine xa_done (by kernel_rfl) rfl ?_
              exact ⟨(T ++ [(⟨t.kind, sub l t.lo t.hi, (C.getD t.lo charY.dft).pos, (C.getD ((t.hi : Int) - 1).toNat charY.dft).pos + (C.getD ((t.hi : Int) - 1).toNat charY.dft).len, decide (n < t.lo)⟩ : Tok)], (t.hi : Int)), [(10, some 14)], .of rfl rfl rfl rfl rfl rfl, next⟩
      · obtain ⟨T, n⟩ := s'
        obtain ⟨g0, g1, g2⟩ := hgr
        rw [List.length_map, List.drop_length] at g1 g2
        have e3 : scanE s = 0 := by rw [e1, g1]; rfl
        have e4 : scanT s = T := by rw [e2, if_pos e3, g2]; simp [tks]
        rw [e3, e4]
        exact finO2 (k := 10) rfl
      · obtain ⟨rfl, g1, g2⟩ := hgr
        have e3 : scanE s = v := by rw [e1, g1]
        have e4 : scanT s = [] := by rw [e2, e3, if_neg g2]
        rw [e3, e4]
        exact finO2n tokY
end Go.Proofs.Ytdonomneofdhfaa
namespace Go.Proofs.Ytdonomneofdhfaa
open Go.GV Go.RowKit
end Go.Proofs.Ytdonomneofdhfaa
namespace Go.Proofs.Ytdonomneofdhfaa
open Go.GV Go.RowKit
end Go.Proofs.Ytdonomneofdhfaa
namespace Go.Proofs.Ytdonomneofdhfaa
open Go.GV Go.RowKit
end Go.Proofs.Ytdonomneofdhfaa
namespace Go.Proofs.Ytdonomneofdhfaa
open Go.GV Go.RowKit
def strY : Lay ByteArray := ⟨[fun s => .string s], ⟨#[]⟩⟩
theorem sub_le (s : ByteArray) (a b : Int) : (sub s a b).size ≤ s.size := by
  unfold sub
  rw [ByteArray.size_extract]; omega
end Go.Proofs.Ytdonomneofdhfaa
namespace Go.Proofs.Ytdonomneofdhfaa
open Go.GV Go.RowKit
end Go.Proofs.Ytdonomneofdhfaa
namespace Go.Proofs.Ytdonomneofdhfaa
open Go.GV Go.RowKit
theorem tks_len (C : List Chr) (l : ByteArray) : ∀ (xs : List Lx.Tk) (n : Int), (tks C l n xs).length = xs.length
  | [], _ => rfl
  | x :: r, n => by rw [tks, List.length_cons, tks_len C l r, List.length_cons]
end Go.Proofs.Ytdonomneofdhfaa
namespace Go.Proofs.Ytdonomneofdhfaa
open Go.GV Go.RowKit
theorem errK_zero : ∀ {xs : List Lx.Tk}, errK xs = 0 → ∀ t ∈ xs, t.err = 0
  | [], _, t, ht => by cases ht
  | x :: r, h, t, ht => by
    rw [errK] at h
    by_cases hx : x.err = 0
    · rw [if_neg (by simpa using hx)] at h
      rcases List.mem_cons.1 ht with rfl | ht
      · exact hx
      · exact errK_zero h t ht
    · rw [if_pos hx] at h; exact absurd h hx
theorem scanE_zero {s : ByteArray} (h : scanE s = 0) : checkE s = 0 ∧ errK (itsOf (logB s)) = 0 ∧ scanT s = tks (charsOf s) (logB s) 0 (itsOf (logB s)) ∧ (logB s).size ≤ 65536 := by
  have hc : checkE s = 0 := by
    unfold scanE at h
    split at h
    · rename_i h2; exact absurd h h2
    · rename_i h2; exact Classical.not_not.1 h2
  refine ⟨hc, ?_, ?_, ?_⟩
  · unfold scanE at h
    rw [if_neg (by simpa using hc)] at h; exact h
  · rw [scanT, if_pos h]
  · rw [logB_size]
    have h2 : charsOf s = chrsL (partsV s) := by rw [charsOf, if_pos hc]
    rw [h2]
    exact Nat.le_trans (chrsL_len _) (Nat.le_trans (partsV_len s) (checkE_size hc))
theorem scanT_len (s : ByteArray) : (scanT s).length ≤ 65537 := by
  by_cases h : scanE s = 0
  · obtain ⟨_, _, e3, e4⟩ := scanE_zero h
    rw [e3, tks_len]
    have := its_len (logB s)
    omega
  · rw [scanT, if_neg h]; simp
end Go.Proofs.Ytdonomneofdhfaa
namespace Go.Proofs.Ytdonomneofdhfaa
open Go.GV Go.RowKit
def kt (t : Tok) : Int × Lx.Bs := (t.kind, bl t.text)
def lexB (l : Lx.Bs) : List (Int × Lx.Bs) := Lx.lexF l.length 0 l
def okB (l : Lx.Bs) : Prop := Lx.okF l.length 0 l
def lgc (s : ByteArray) : Lx.Bs := (charsOf s).map (·.b)
theorem bl_lgc (s : ByteArray) : bl (logB s) = lgc s := by
  unfold bl logB lgc
  simp only [List.map_map]
  refine List.map_congr_left fun c hc => ?_
  exact byC_nat (charsOf_b hc)
theorem lgc_len (s : ByteArray) : (lgc s).length ≤ s.size := by
  unfold lgc charsOf
  rw [List.length_map]
  split
  · exact Nat.le_trans (chrsL_len _) (partsV_len s)
  · exact Nat.zero_le _
theorem bl_ext (s : ByteArray) (a b : Nat) : bl (sub s a b) = ((bl s).take b).drop a := by
  unfold bl sub
  rw [ByteArray.data_extract, Array.toList_extract, List.extract_eq_take_drop, List.map_take, List.map_drop, List.drop_take]
  simp
theorem kt_tks (C : List Chr) (l : ByteArray) : ∀ (xs : List Lx.Tk) (n : Int), (tks C l n xs).map kt = xs.map fun t => (t.kind, ((bl l).take t.hi).drop t.lo)
  | [], _ => rfl
  | t :: r, n => by
    simp only [tks, List.map_cons]
    rw [kt_tks C l r]
    simp only [kt, bl_ext]
theorem errK_of : ∀ {xs : List Lx.Tk}, (∀ t ∈ xs, t.err = 0) → errK xs = 0
  | [], _ => rfl
  | x :: r, h => by
    rw [errK, if_neg (by simpa using h x (List.mem_cons_self ..))]
    exact errK_of fun t ht => h t (List.mem_cons_of_mem _ ht)
theorem its_lex {s : ByteArray} (h : okB (lgc s)) : (itsOf (logB s)).map (fun t => (t.kind, ((bl (logB s)).take t.hi).drop t.lo)) = lexB (lgc s) := by
  have := Lx.lexF_items (lgc s) (lgc s).length 0 0 h
  rw [List.drop_zero] at this
  unfold itsOf Lx.itemsL
  rw [bl_lgc]
  exact this
theorem scan_lex {s : ByteArray} (h : scanE s = 0) : checkE s = 0 ∧ okB (lgc s) ∧ (scanT s).map kt = lexB (lgc s) := by
  obtain ⟨e1, e2, e3, e4⟩ := scanE_zero h
  have ho : okB (lgc s) := by
    refine (Lx.okF_items _ _ 0 _).1 ?_
    have := errK_zero e2
    unfold itsOf Lx.itemsL at this
    rwa [bl_lgc] at this
  refine ⟨e1, ho, ?_⟩
  rw [e3, kt_tks, its_lex ho]
theorem scan_of {s : ByteArray} (hc : checkE s = 0) (ho : okB (lgc s)) : scanE s = 0 ∧ (scanT s).map kt = lexB (lgc s) := by
  have he : scanE s = 0 := by
    rw [scanE, if_neg (by simpa using hc)]
    refine errK_of ?_
    have := (Lx.okF_items _ _ 0 _).2 ho
    unfold itsOf Lx.itemsL
    rw [bl_lgc]
    exact this
  exact ⟨he, (scan_lex he).2.2⟩
theorem chars_last (s : ByteArray) : ∀ (n : Nat) (i : Int), 0 ≤ i → i < s.size → s.size - i ≤ n → checkL s.size (partsF s n i) = 0 → ∃ c, (chrsL (partsF s n i)).getLast? = some c ∧ c.b = 10
  | 0, i, _, h1, h2, _ => by omega
  | n + 1, i, h0, h1, h2, hc => by
    have hl := partP_len s h0 h1
    simp only [partsF] at hc ⊢
    rw [if_pos h1] at hc ⊢
    simp only [checkL, partP_pos] at hc
    by_cases h3 : i + (partP s i).len < s.size
    · rw [if_neg (by omega)] at hc
      obtain ⟨c, hx, hb⟩ := chars_last s n _ (by omega) h3 (by omega) hc
      refine ⟨c, ?_, hb⟩
      simp only [chrsL]
      split
      · exact hx
      · cases hy : chrsL (partsF s n (i + (partP s i).len)) with
        | nil => rw [hy] at hx; cases hx
        | cons y ys => rw [hy] at hx; rw [List.getLast?_cons_cons]; exact hx
    · rw [if_pos (by omega)] at hc
      have hsp : (partP s i).sp = false := by
        cases hs : (partP s i).sp
        · rfl
        · rw [hs] at hc; cases hc
      have hb : (partP s i).b = 10 := by
        by_cases hb : (partP s i).b = 10
        · exact hb
        · rw [hsp, if_pos (by simp [hb])] at hc; cases hc
      rw [partsF_end s (by omega)]
      simp only [chrsL]
      rw [if_neg (by rw [hsp]; simp)]
      exact ⟨_, rfl, hb⟩
theorem lgc_last {s : ByteArray} (hc : checkE s = 0) (h0 : s.size ≠ 0) : (lgc s).getLast? = some 10 := by
  have hsz := checkE_size hc
  have e : charsOf s = chrsL (partsF s s.size 0) := by rw [charsOf, if_pos hc]; rfl
  have hc' : checkL s.size (partsF s s.size 0) = 0 := by rw [checkE_of hsz] at hc; exact hc
  obtain ⟨c, hx, hb⟩ := chars_last s s.size 0 (Int.le_refl _) (by omega) (by omega) hc'
  unfold lgc
  rw [List.getLast?_map, e, hx]
  simp [hb]
end Go.Proofs.Ytdonomneofdhfaa
