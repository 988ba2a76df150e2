/- The types of this translation, as my own table; printed by gen_types.py. -/
import Derived.Test.YtjcjbnkimpggeaaGW
import Derived.Test.YtjcjbnkimpggeaaProg
import Derived.KernelRfl
namespace Go.Proofs.Ytjcjbnkimpggeaa
open Go.GV
def ti2 : TI := ⟨1, [.int .i64 0], .int .i64, false⟩
theorem tiok2 : TIok Try.prog 2 ti2 := ⟨⟨_, Try.underlying2, rfl⟩, by kernel_rfl, rfl, fun _ => ⟨rfl, rfl⟩, fun h => (by cases h)⟩
def ti3 : TI := ⟨1, [.int .i64 0], .int .i64, false⟩
theorem tiok3 : TIok Try.prog 3 ti3 := ⟨⟨_, Try.underlying3, rfl⟩, by kernel_rfl, rfl, fun _ => ⟨rfl, rfl⟩, fun h => (by cases h)⟩
def ti4 : TI := ⟨1, [.bool false], .bool, false⟩
theorem tiok4 : TIok Try.prog 4 ti4 := ⟨⟨_, Try.underlying4, rfl⟩, by kernel_rfl, rfl, fun _ => ⟨rfl, rfl⟩, fun h => (by cases h)⟩
def ti5 : TI := ⟨1, [.int .u8 0], .int .u8, false⟩
theorem tiok5 : TIok Try.prog 5 ti5 := ⟨⟨_, Try.underlying5, rfl⟩, by kernel_rfl, rfl, fun _ => ⟨rfl, rfl⟩, fun h => (by cases h)⟩
def ti6 : TI := ⟨1, [.int .u8 0], .int .u8, false⟩
theorem tiok6 : TIok Try.prog 6 ti6 := ⟨⟨_, Try.underlying6, rfl⟩, by kernel_rfl, rfl, fun _ => ⟨rfl, rfl⟩, fun h => (by cases h)⟩
def ti9 : TI := ⟨1, [.string ⟨#[]⟩], .str, false⟩
theorem tiok9 : TIok Try.prog 9 ti9 := ⟨⟨_, Try.underlying9, rfl⟩, by kernel_rfl, rfl, fun _ => ⟨rfl, rfl⟩, fun h => (by cases h)⟩
def ti10 : TI := ⟨1, [.string ⟨#[]⟩], .str, false⟩
theorem tiok10 : TIok Try.prog 10 ti10 := ⟨⟨_, Try.underlying10, rfl⟩, by kernel_rfl, rfl, fun _ => ⟨rfl, rfl⟩, fun h => (by cases h)⟩
def ti11 : TI := ⟨1, [.string ⟨#[]⟩], .str, false⟩
theorem tiok11 : TIok Try.prog 11 ti11 := ⟨⟨_, Try.underlying11, rfl⟩, by kernel_rfl, rfl, fun _ => ⟨rfl, rfl⟩, fun h => (by cases h)⟩
def ti22 : TI := ⟨1, [.int .i64 0], .int .i64, false⟩
theorem tiok22 : TIok Try.prog 22 ti22 := ⟨⟨_, Try.underlying22, rfl⟩, by kernel_rfl, rfl, fun _ => ⟨rfl, rfl⟩, fun h => (by cases h)⟩
def ti83 : TI := ⟨1, [.int .u8 0], .int .u8, false⟩
theorem tiok83 : TIok Try.prog 83 ti83 := ⟨⟨_, Try.underlying83, rfl⟩, by kernel_rfl, rfl, fun _ => ⟨rfl, rfl⟩, fun h => (by cases h)⟩
def ti84 : TI := ⟨1, [.int .u8 0], .int .u8, false⟩
theorem tiok84 : TIok Try.prog 84 ti84 := ⟨⟨_, Try.underlying84, rfl⟩, by kernel_rfl, rfl, fun _ => ⟨rfl, rfl⟩, fun h => (by cases h)⟩
def ti7 : TI := ⟨4, [.int .i64 0, .int .i64 0, .bool false, .int .u8 0], .strct [(0, 2), (1, 3), (2, 4), (3, 6)], false⟩
theorem tiok7 : TIok Try.prog 7 ti7 := ⟨⟨_, Try.underlying7, _, rfl, rfl⟩, by kernel_rfl, rfl, fun h => (by cases h), fun h => (by cases h)⟩
def ti8 : TI := ⟨4, [.int .i64 0, .int .i64 0, .bool false, .int .u8 0], .strct [(0, 2), (1, 3), (2, 4), (3, 6)], false⟩
theorem tiok8 : TIok Try.prog 8 ti8 := ⟨⟨_, Try.underlying8, _, rfl, rfl⟩, by kernel_rfl, rfl, fun h => (by cases h), fun h => (by cases h)⟩
def ti13 : TI := ⟨2, [.string ⟨#[]⟩, .int .u64 0], .strct [(0, 9), (1, 12)], false⟩
theorem tiok13 : TIok Try.prog 13 ti13 := ⟨⟨_, Try.underlying13, _, rfl, rfl⟩, by kernel_rfl, rfl, fun h => (by cases h), fun h => (by cases h)⟩
def ti14 : TI := ⟨2, [.string ⟨#[]⟩, .int .u64 0], .strct [(0, 9), (1, 12)], false⟩
theorem tiok14 : TIok Try.prog 14 ti14 := ⟨⟨_, Try.underlying14, _, rfl, rfl⟩, by kernel_rfl, rfl, fun h => (by cases h), fun h => (by cases h)⟩
def ti18 : TI := ⟨1, [.pointer none], .strct [(0, 17)], false⟩
theorem tiok18 : TIok Try.prog 18 ti18 := ⟨⟨_, Try.underlying18, _, rfl, rfl⟩, by kernel_rfl, rfl, fun h => (by cases h), fun h => (by cases h)⟩
def ti19 : TI := ⟨1, [.pointer none], .strct [(0, 17)], false⟩
theorem tiok19 : TIok Try.prog 19 ti19 := ⟨⟨_, Try.underlying19, _, rfl, rfl⟩, by kernel_rfl, rfl, fun h => (by cases h), fun h => (by cases h)⟩
def ti31 : TI := ⟨1, [.slice none 0 0], .slice 35, false⟩
theorem tiok31 : TIok Try.prog 31 ti31 := ⟨⟨_, Try.underlying31, rfl⟩, by kernel_rfl, rfl, fun _ => ⟨rfl, rfl⟩, fun h => (by cases h)⟩
def ti34 : TI := ⟨3, [.int .u8 0, .int .i64 0, .int .i64 0], .strct [(0, 5), (1, 3), (2, 3)], true⟩
theorem tiok34 : TIok Try.prog 34 ti34 := ⟨⟨_, Try.underlying34, _, rfl, rfl⟩, by kernel_rfl, rfl, fun h => (by cases h), fun _ => ⟨by kernel_rfl, by kernel_rfl, by kernel_rfl⟩⟩
def ti35 : TI := ⟨3, [.int .u8 0, .int .i64 0, .int .i64 0], .strct [(0, 5), (1, 3), (2, 3)], true⟩
theorem tiok35 : TIok Try.prog 35 ti35 := ⟨⟨_, Try.underlying35, _, rfl, rfl⟩, by kernel_rfl, rfl, fun h => (by cases h), fun _ => ⟨by kernel_rfl, by kernel_rfl, by kernel_rfl⟩⟩
def ti40 : TI := ⟨1, [.slice none 0 0], .slice 50, false⟩
theorem tiok40 : TIok Try.prog 40 ti40 := ⟨⟨_, Try.underlying40, rfl⟩, by kernel_rfl, rfl, fun _ => ⟨rfl, rfl⟩, fun h => (by cases h)⟩
def ti49 : TI := ⟨2, [.int .i64 0, .int .i64 0], .strct [(0, 3), (1, 3)], true⟩
theorem tiok49 : TIok Try.prog 49 ti49 := ⟨⟨_, Try.underlying49, _, rfl, rfl⟩, by kernel_rfl, rfl, fun h => (by cases h), fun _ => ⟨by kernel_rfl, by kernel_rfl, by kernel_rfl⟩⟩
def ti50 : TI := ⟨2, [.int .i64 0, .int .i64 0], .strct [(0, 3), (1, 3)], true⟩
theorem tiok50 : TIok Try.prog 50 ti50 := ⟨⟨_, Try.underlying50, _, rfl, rfl⟩, by kernel_rfl, rfl, fun h => (by cases h), fun _ => ⟨by kernel_rfl, by kernel_rfl, by kernel_rfl⟩⟩
def ti52 : TI := ⟨1, [.slice none 0 0], .slice 5, false⟩
theorem tiok52 : TIok Try.prog 52 ti52 := ⟨⟨_, Try.underlying52, rfl⟩, by kernel_rfl, rfl, fun _ => ⟨rfl, rfl⟩, fun h => (by cases h)⟩
def ti54 : TI := ⟨2, [.pointer none, .slice none 0 0], .strct [(0, 53), (1, 52)], false⟩
theorem tiok54 : TIok Try.prog 54 ti54 := ⟨⟨_, Try.underlying54, _, rfl, rfl⟩, by kernel_rfl, rfl, fun h => (by cases h), fun h => (by cases h)⟩
def ti55 : TI := ⟨2, [.pointer none, .slice none 0 0], .strct [(0, 53), (1, 52)], false⟩
theorem tiok55 : TIok Try.prog 55 ti55 := ⟨⟨_, Try.underlying55, _, rfl, rfl⟩, by kernel_rfl, rfl, fun h => (by cases h), fun h => (by cases h)⟩
def ti67 : TI := ⟨4, [.int .u8 0, .int .i64 0, .int .i64 0, .bool false], .strct [(0, 35), (3, 4)], true⟩
theorem tiok67 : TIok Try.prog 67 ti67 := ⟨⟨_, Try.underlying67, _, rfl, rfl⟩, by kernel_rfl, rfl, fun h => (by cases h), fun _ => ⟨by kernel_rfl, by kernel_rfl, by kernel_rfl⟩⟩
def ti68 : TI := ⟨4, [.int .u8 0, .int .i64 0, .int .i64 0, .bool false], .strct [(0, 35), (3, 4)], true⟩
theorem tiok68 : TIok Try.prog 68 ti68 := ⟨⟨_, Try.underlying68, _, rfl, rfl⟩, by kernel_rfl, rfl, fun h => (by cases h), fun _ => ⟨by kernel_rfl, by kernel_rfl, by kernel_rfl⟩⟩
def ti77 : TI := ⟨4, [.pointer none, .pointer none, .pointer none, .string ⟨#[]⟩], .strct [(0, 17), (1, 17), (2, 17), (3, 9)], false⟩
theorem tiok77 : TIok Try.prog 77 ti77 := ⟨⟨_, Try.underlying77, _, rfl, rfl⟩, by kernel_rfl, rfl, fun h => (by cases h), fun h => (by cases h)⟩
def ti78 : TI := ⟨4, [.pointer none, .pointer none, .pointer none, .string ⟨#[]⟩], .strct [(0, 17), (1, 17), (2, 17), (3, 9)], false⟩
theorem tiok78 : TIok Try.prog 78 ti78 := ⟨⟨_, Try.underlying78, _, rfl, rfl⟩, by kernel_rfl, rfl, fun h => (by cases h), fun h => (by cases h)⟩
def ti88 : TI := ⟨11, [.int .u64 0, .int .u64 0, .int .u32 0, .int .u8 0, .int .u8 0, .int .u8 0, .int .u8 0, .nilFunc, .pointer none, .int .i32 0, .int .i32 0], .strct [(0, 12), (1, 12), (2, 82), (3, 83), (4, 5), (5, 5), (6, 84), (7, 85), (8, 71), (9, 86), (10, 87)], false⟩
theorem tiok88 : TIok Try.prog 88 ti88 := ⟨⟨_, Try.underlying88, _, rfl, rfl⟩, by kernel_rfl, rfl, fun h => (by cases h), fun h => (by cases h)⟩
def ti89 : TI := ⟨11, [.int .u64 0, .int .u64 0, .int .u32 0, .int .u8 0, .int .u8 0, .int .u8 0, .int .u8 0, .nilFunc, .pointer none, .int .i32 0, .int .i32 0], .strct [(0, 12), (1, 12), (2, 82), (3, 83), (4, 5), (5, 5), (6, 84), (7, 85), (8, 71), (9, 86), (10, 87)], false⟩
theorem tiok89 : TIok Try.prog 89 ti89 := ⟨⟨_, Try.underlying89, _, rfl, rfl⟩, by kernel_rfl, rfl, fun h => (by cases h), fun h => (by cases h)⟩
def ti1 : TI := ⟨1, [.nilFunc], .other, false⟩
theorem tiok1 : TIok Try.prog 1 ti1 := ⟨⟨_, Try.underlying1, fun _ h => (by cases h), fun _ _ h => (by cases h)⟩, by kernel_rfl, rfl, fun _ => ⟨rfl, rfl⟩, fun h => (by cases h)⟩
def ti12 : TI := ⟨1, [.int .u64 0], .int .u64, false⟩
theorem tiok12 : TIok Try.prog 12 ti12 := ⟨⟨_, Try.underlying12, rfl⟩, by kernel_rfl, rfl, fun _ => ⟨rfl, rfl⟩, fun h => (by cases h)⟩
def ti15 : TI := ⟨1, [.pointer none], .other, false⟩
theorem tiok15 : TIok Try.prog 15 ti15 := ⟨⟨_, Try.underlying15, fun _ h => (by cases h), fun _ _ h => (by cases h)⟩, by kernel_rfl, rfl, fun _ => ⟨rfl, rfl⟩, fun h => (by cases h)⟩
def ti16 : TI := ⟨1, [.pointer none], .other, false⟩
theorem tiok16 : TIok Try.prog 16 ti16 := ⟨⟨_, Try.underlying16, fun _ h => (by cases h), fun _ _ h => (by cases h)⟩, by kernel_rfl, rfl, fun _ => ⟨rfl, rfl⟩, fun h => (by cases h)⟩
def ti17 : TI := ⟨1, [.pointer none], .other, false⟩
theorem tiok17 : TIok Try.prog 17 ti17 := ⟨⟨_, Try.underlying17, fun _ h => (by cases h), fun _ _ h => (by cases h)⟩, by kernel_rfl, rfl, fun _ => ⟨rfl, rfl⟩, fun h => (by cases h)⟩
def ti20 : TI := ⟨1, [.nilIface], .other, false⟩
theorem tiok20 : TIok Try.prog 20 ti20 := ⟨⟨_, Try.underlying20, fun _ h => (by cases h), fun _ _ h => (by cases h)⟩, by kernel_rfl, rfl, fun _ => ⟨rfl, rfl⟩, fun h => (by cases h)⟩
def ti21 : TI := ⟨1, [.int .i32 0], .int .i32, false⟩
theorem tiok21 : TIok Try.prog 21 ti21 := ⟨⟨_, Try.underlying21, rfl⟩, by kernel_rfl, rfl, fun _ => ⟨rfl, rfl⟩, fun h => (by cases h)⟩
def ti24 : TI := ⟨1, [.nilFunc], .other, false⟩
theorem tiok24 : TIok Try.prog 24 ti24 := ⟨⟨_, Try.underlying24, fun _ h => (by cases h), fun _ _ h => (by cases h)⟩, by kernel_rfl, rfl, fun _ => ⟨rfl, rfl⟩, fun h => (by cases h)⟩
def ti26 : TI := ⟨1, [.nilFunc], .other, false⟩
theorem tiok26 : TIok Try.prog 26 ti26 := ⟨⟨_, Try.underlying26, fun _ h => (by cases h), fun _ _ h => (by cases h)⟩, by kernel_rfl, rfl, fun _ => ⟨rfl, rfl⟩, fun h => (by cases h)⟩
def ti28 : TI := ⟨1, [.nilFunc], .other, false⟩
theorem tiok28 : TIok Try.prog 28 ti28 := ⟨⟨_, Try.underlying28, fun _ h => (by cases h), fun _ _ h => (by cases h)⟩, by kernel_rfl, rfl, fun _ => ⟨rfl, rfl⟩, fun h => (by cases h)⟩
def ti29 : TI := ⟨1, [.nilFunc], .other, false⟩
theorem tiok29 : TIok Try.prog 29 ti29 := ⟨⟨_, Try.underlying29, fun _ h => (by cases h), fun _ _ h => (by cases h)⟩, by kernel_rfl, rfl, fun _ => ⟨rfl, rfl⟩, fun h => (by cases h)⟩
def ti30 : TI := ⟨1, [.nilFunc], .other, false⟩
theorem tiok30 : TIok Try.prog 30 ti30 := ⟨⟨_, Try.underlying30, fun _ h => (by cases h), fun _ _ h => (by cases h)⟩, by kernel_rfl, rfl, fun _ => ⟨rfl, rfl⟩, fun h => (by cases h)⟩
def ti33 : TI := ⟨1, [.nilFunc], .other, false⟩
theorem tiok33 : TIok Try.prog 33 ti33 := ⟨⟨_, Try.underlying33, fun _ h => (by cases h), fun _ _ h => (by cases h)⟩, by kernel_rfl, rfl, fun _ => ⟨rfl, rfl⟩, fun h => (by cases h)⟩
def ti36 : TI := ⟨1, [.nilFunc], .other, false⟩
theorem tiok36 : TIok Try.prog 36 ti36 := ⟨⟨_, Try.underlying36, fun _ h => (by cases h), fun _ _ h => (by cases h)⟩, by kernel_rfl, rfl, fun _ => ⟨rfl, rfl⟩, fun h => (by cases h)⟩
def ti37 : TI := ⟨1, [.nilFunc], .other, false⟩
theorem tiok37 : TIok Try.prog 37 ti37 := ⟨⟨_, Try.underlying37, fun _ h => (by cases h), fun _ _ h => (by cases h)⟩, by kernel_rfl, rfl, fun _ => ⟨rfl, rfl⟩, fun h => (by cases h)⟩
def ti39 : TI := ⟨1, [.nilFunc], .other, false⟩
theorem tiok39 : TIok Try.prog 39 ti39 := ⟨⟨_, Try.underlying39, fun _ h => (by cases h), fun _ _ h => (by cases h)⟩, by kernel_rfl, rfl, fun _ => ⟨rfl, rfl⟩, fun h => (by cases h)⟩
def ti42 : TI := ⟨1, [.nilFunc], .other, false⟩
theorem tiok42 : TIok Try.prog 42 ti42 := ⟨⟨_, Try.underlying42, fun _ h => (by cases h), fun _ _ h => (by cases h)⟩, by kernel_rfl, rfl, fun _ => ⟨rfl, rfl⟩, fun h => (by cases h)⟩
def ti44 : TI := ⟨1, [.nilFunc], .other, false⟩
theorem tiok44 : TIok Try.prog 44 ti44 := ⟨⟨_, Try.underlying44, fun _ h => (by cases h), fun _ _ h => (by cases h)⟩, by kernel_rfl, rfl, fun _ => ⟨rfl, rfl⟩, fun h => (by cases h)⟩
def ti45 : TI := ⟨1, [.nilFunc], .other, false⟩
theorem tiok45 : TIok Try.prog 45 ti45 := ⟨⟨_, Try.underlying45, fun _ h => (by cases h), fun _ _ h => (by cases h)⟩, by kernel_rfl, rfl, fun _ => ⟨rfl, rfl⟩, fun h => (by cases h)⟩
def ti46 : TI := ⟨1, [.nilFunc], .other, false⟩
theorem tiok46 : TIok Try.prog 46 ti46 := ⟨⟨_, Try.underlying46, fun _ h => (by cases h), fun _ _ h => (by cases h)⟩, by kernel_rfl, rfl, fun _ => ⟨rfl, rfl⟩, fun h => (by cases h)⟩
def ti47 : TI := ⟨1, [.nilFunc], .other, false⟩
theorem tiok47 : TIok Try.prog 47 ti47 := ⟨⟨_, Try.underlying47, fun _ h => (by cases h), fun _ _ h => (by cases h)⟩, by kernel_rfl, rfl, fun _ => ⟨rfl, rfl⟩, fun h => (by cases h)⟩
def ti48 : TI := ⟨1, [.nilFunc], .other, false⟩
theorem tiok48 : TIok Try.prog 48 ti48 := ⟨⟨_, Try.underlying48, fun _ h => (by cases h), fun _ _ h => (by cases h)⟩, by kernel_rfl, rfl, fun _ => ⟨rfl, rfl⟩, fun h => (by cases h)⟩
def ti51 : TI := ⟨1, [.nilFunc], .other, false⟩
theorem tiok51 : TIok Try.prog 51 ti51 := ⟨⟨_, Try.underlying51, fun _ h => (by cases h), fun _ _ h => (by cases h)⟩, by kernel_rfl, rfl, fun _ => ⟨rfl, rfl⟩, fun h => (by cases h)⟩
def ti53 : TI := ⟨1, [.pointer none], .other, false⟩
theorem tiok53 : TIok Try.prog 53 ti53 := ⟨⟨_, Try.underlying53, fun _ h => (by cases h), fun _ _ h => (by cases h)⟩, by kernel_rfl, rfl, fun _ => ⟨rfl, rfl⟩, fun h => (by cases h)⟩
def ti56 : TI := ⟨1, [.nilIface], .other, false⟩
theorem tiok56 : TIok Try.prog 56 ti56 := ⟨⟨_, Try.underlying56, fun _ h => (by cases h), fun _ _ h => (by cases h)⟩, by kernel_rfl, rfl, fun _ => ⟨rfl, rfl⟩, fun h => (by cases h)⟩
def ti57 : TI := ⟨1, [.nilIface], .other, false⟩
theorem tiok57 : TIok Try.prog 57 ti57 := ⟨⟨_, Try.underlying57, fun _ h => (by cases h), fun _ _ h => (by cases h)⟩, by kernel_rfl, rfl, fun _ => ⟨rfl, rfl⟩, fun h => (by cases h)⟩
def ti58 : TI := ⟨1, [.nilFunc], .other, false⟩
theorem tiok58 : TIok Try.prog 58 ti58 := ⟨⟨_, Try.underlying58, fun _ h => (by cases h), fun _ _ h => (by cases h)⟩, by kernel_rfl, rfl, fun _ => ⟨rfl, rfl⟩, fun h => (by cases h)⟩
def ti60 : TI := ⟨1, [.nilFunc], .other, false⟩
theorem tiok60 : TIok Try.prog 60 ti60 := ⟨⟨_, Try.underlying60, fun _ h => (by cases h), fun _ _ h => (by cases h)⟩, by kernel_rfl, rfl, fun _ => ⟨rfl, rfl⟩, fun h => (by cases h)⟩
def ti61 : TI := ⟨1, [.nilFunc], .other, false⟩
theorem tiok61 : TIok Try.prog 61 ti61 := ⟨⟨_, Try.underlying61, fun _ h => (by cases h), fun _ _ h => (by cases h)⟩, by kernel_rfl, rfl, fun _ => ⟨rfl, rfl⟩, fun h => (by cases h)⟩
def ti62 : TI := ⟨1, [.nilFunc], .other, false⟩
theorem tiok62 : TIok Try.prog 62 ti62 := ⟨⟨_, Try.underlying62, fun _ h => (by cases h), fun _ _ h => (by cases h)⟩, by kernel_rfl, rfl, fun _ => ⟨rfl, rfl⟩, fun h => (by cases h)⟩
def ti63 : TI := ⟨1, [.nilFunc], .other, false⟩
theorem tiok63 : TIok Try.prog 63 ti63 := ⟨⟨_, Try.underlying63, fun _ h => (by cases h), fun _ _ h => (by cases h)⟩, by kernel_rfl, rfl, fun _ => ⟨rfl, rfl⟩, fun h => (by cases h)⟩
def ti64 : TI := ⟨1, [.nilFunc], .other, false⟩
theorem tiok64 : TIok Try.prog 64 ti64 := ⟨⟨_, Try.underlying64, fun _ h => (by cases h), fun _ _ h => (by cases h)⟩, by kernel_rfl, rfl, fun _ => ⟨rfl, rfl⟩, fun h => (by cases h)⟩
def ti65 : TI := ⟨1, [.nilFunc], .other, false⟩
theorem tiok65 : TIok Try.prog 65 ti65 := ⟨⟨_, Try.underlying65, fun _ h => (by cases h), fun _ _ h => (by cases h)⟩, by kernel_rfl, rfl, fun _ => ⟨rfl, rfl⟩, fun h => (by cases h)⟩
def ti66 : TI := ⟨1, [.nilFunc], .other, false⟩
theorem tiok66 : TIok Try.prog 66 ti66 := ⟨⟨_, Try.underlying66, fun _ h => (by cases h), fun _ _ h => (by cases h)⟩, by kernel_rfl, rfl, fun _ => ⟨rfl, rfl⟩, fun h => (by cases h)⟩
def ti70 : TI := ⟨1, [.nilFunc], .other, false⟩
theorem tiok70 : TIok Try.prog 70 ti70 := ⟨⟨_, Try.underlying70, fun _ h => (by cases h), fun _ _ h => (by cases h)⟩, by kernel_rfl, rfl, fun _ => ⟨rfl, rfl⟩, fun h => (by cases h)⟩
def ti71 : TI := ⟨1, [.pointer none], .other, false⟩
theorem tiok71 : TIok Try.prog 71 ti71 := ⟨⟨_, Try.underlying71, fun _ h => (by cases h), fun _ _ h => (by cases h)⟩, by kernel_rfl, rfl, fun _ => ⟨rfl, rfl⟩, fun h => (by cases h)⟩
def ti72 : TI := ⟨1, [.nilFunc], .other, false⟩
theorem tiok72 : TIok Try.prog 72 ti72 := ⟨⟨_, Try.underlying72, fun _ h => (by cases h), fun _ _ h => (by cases h)⟩, by kernel_rfl, rfl, fun _ => ⟨rfl, rfl⟩, fun h => (by cases h)⟩
def ti73 : TI := ⟨1, [.nilFunc], .other, false⟩
theorem tiok73 : TIok Try.prog 73 ti73 := ⟨⟨_, Try.underlying73, fun _ h => (by cases h), fun _ _ h => (by cases h)⟩, by kernel_rfl, rfl, fun _ => ⟨rfl, rfl⟩, fun h => (by cases h)⟩
def ti74 : TI := ⟨1, [.nilFunc], .other, false⟩
theorem tiok74 : TIok Try.prog 74 ti74 := ⟨⟨_, Try.underlying74, fun _ h => (by cases h), fun _ _ h => (by cases h)⟩, by kernel_rfl, rfl, fun _ => ⟨rfl, rfl⟩, fun h => (by cases h)⟩
def ti75 : TI := ⟨1, [.pointer none], .other, false⟩
theorem tiok75 : TIok Try.prog 75 ti75 := ⟨⟨_, Try.underlying75, fun _ h => (by cases h), fun _ _ h => (by cases h)⟩, by kernel_rfl, rfl, fun _ => ⟨rfl, rfl⟩, fun h => (by cases h)⟩
def ti76 : TI := ⟨1, [.nilFunc], .other, false⟩
theorem tiok76 : TIok Try.prog 76 ti76 := ⟨⟨_, Try.underlying76, fun _ h => (by cases h), fun _ _ h => (by cases h)⟩, by kernel_rfl, rfl, fun _ => ⟨rfl, rfl⟩, fun h => (by cases h)⟩
def ti82 : TI := ⟨1, [.int .u32 0], .int .u32, false⟩
theorem tiok82 : TIok Try.prog 82 ti82 := ⟨⟨_, Try.underlying82, rfl⟩, by kernel_rfl, rfl, fun _ => ⟨rfl, rfl⟩, fun h => (by cases h)⟩
def ti85 : TI := ⟨1, [.nilFunc], .other, false⟩
theorem tiok85 : TIok Try.prog 85 ti85 := ⟨⟨_, Try.underlying85, fun _ h => (by cases h), fun _ _ h => (by cases h)⟩, by kernel_rfl, rfl, fun _ => ⟨rfl, rfl⟩, fun h => (by cases h)⟩
def ti86 : TI := ⟨1, [.int .i32 0], .int .i32, false⟩
theorem tiok86 : TIok Try.prog 86 ti86 := ⟨⟨_, Try.underlying86, rfl⟩, by kernel_rfl, rfl, fun _ => ⟨rfl, rfl⟩, fun h => (by cases h)⟩
def ti87 : TI := ⟨1, [.int .i32 0], .int .i32, false⟩
theorem tiok87 : TIok Try.prog 87 ti87 := ⟨⟨_, Try.underlying87, rfl⟩, by kernel_rfl, rfl, fun _ => ⟨rfl, rfl⟩, fun h => (by cases h)⟩
def tt : TT := [(2, ti2), (3, ti3), (4, ti4), (5, ti5), (6, ti6), (9, ti9), (10, ti10), (11, ti11), (22, ti22), (83, ti83), (84, ti84), (7, ti7), (8, ti8), (13, ti13), (14, ti14), (18, ti18), (19, ti19), (31, ti31), (34, ti34), (35, ti35), (40, ti40), (49, ti49), (50, ti50), (52, ti52), (54, ti54), (55, ti55), (67, ti67), (68, ti68), (77, ti77), (78, ti78), (88, ti88), (89, ti89), (1, ti1), (12, ti12), (15, ti15), (16, ti16), (17, ti17), (20, ti20), (21, ti21), (24, ti24), (26, ti26), (28, ti28), (29, ti29), (30, ti30), (33, ti33), (36, ti36), (37, ti37), (39, ti39), (42, ti42), (44, ti44), (45, ti45), (46, ti46), (47, ti47), (48, ti48), (51, ti51), (53, ti53), (56, ti56), (57, ti57), (58, ti58), (60, ti60), (61, ti61), (62, ti62), (63, ti63), (64, ti64), (65, ti65), (66, ti66), (70, ti70), (71, ti71), (72, ti72), (73, ti73), (74, ti74), (75, ti75), (76, ti76), (82, ti82), (85, ti85), (86, ti86), (87, ti87)]
theorem tt_ok : TOk Try.prog tt := TOk.cons tiok2 (TOk.cons tiok3 (TOk.cons tiok4 (TOk.cons tiok5 (TOk.cons tiok6 (TOk.cons tiok9 (TOk.cons tiok10 (TOk.cons tiok11 (TOk.cons tiok22 (TOk.cons tiok83 (TOk.cons tiok84 (TOk.cons tiok7 (TOk.cons tiok8 (TOk.cons tiok13 (TOk.cons tiok14 (TOk.cons tiok18 (TOk.cons tiok19 (TOk.cons tiok31 (TOk.cons tiok34 (TOk.cons tiok35 (TOk.cons tiok40 (TOk.cons tiok49 (TOk.cons tiok50 (TOk.cons tiok52 (TOk.cons tiok54 (TOk.cons tiok55 (TOk.cons tiok67 (TOk.cons tiok68 (TOk.cons tiok77 (TOk.cons tiok78 (TOk.cons tiok88 (TOk.cons tiok89 (TOk.cons tiok1 (TOk.cons tiok12 (TOk.cons tiok15 (TOk.cons tiok16 (TOk.cons tiok17 (TOk.cons tiok20 (TOk.cons tiok21 (TOk.cons tiok24 (TOk.cons tiok26 (TOk.cons tiok28 (TOk.cons tiok29 (TOk.cons tiok30 (TOk.cons tiok33 (TOk.cons tiok36 (TOk.cons tiok37 (TOk.cons tiok39 (TOk.cons tiok42 (TOk.cons tiok44 (TOk.cons tiok45 (TOk.cons tiok46 (TOk.cons tiok47 (TOk.cons tiok48 (TOk.cons tiok51 (TOk.cons tiok53 (TOk.cons tiok56 (TOk.cons tiok57 (TOk.cons tiok58 (TOk.cons tiok60 (TOk.cons tiok61 (TOk.cons tiok62 (TOk.cons tiok63 (TOk.cons tiok64 (TOk.cons tiok65 (TOk.cons tiok66 (TOk.cons tiok70 (TOk.cons tiok71 (TOk.cons tiok72 (TOk.cons tiok73 (TOk.cons tiok74 (TOk.cons tiok75 (TOk.cons tiok76 (TOk.cons tiok82 (TOk.cons tiok85 (TOk.cons tiok86 (TOk.cons tiok87 (TOk.nil _)))))))))))))))))))))))))))))))))))))))))))))))))))))))))))))))))))))))))))))
theorem fn3 : Fn1 Try.prog 3 := ⟨fun a w => run_callFunc Try.func3 rfl (by kernel_rfl) a w⟩
theorem fn4 : Fn1 Try.prog 4 := ⟨fun a w => run_callFunc Try.func4 rfl (by kernel_rfl) a w⟩
theorem fn5 : Fn1 Try.prog 5 := ⟨fun a w => run_callFunc Try.func5 rfl (by kernel_rfl) a w⟩
theorem fn6 : Fn1 Try.prog 6 := ⟨fun a w => run_callFunc Try.func6 rfl (by kernel_rfl) a w⟩
theorem fn7 : Fn1 Try.prog 7 := ⟨fun a w => run_callFunc Try.func7 rfl (by kernel_rfl) a w⟩
theorem fn8 : Fn1 Try.prog 8 := ⟨fun a w => run_callFunc Try.func8 rfl (by kernel_rfl) a w⟩
theorem fn9 : Fn1 Try.prog 9 := ⟨fun a w => run_callFunc Try.func9 rfl (by kernel_rfl) a w⟩
theorem fn10 : Fn1 Try.prog 10 := ⟨fun a w => run_callFunc Try.func10 rfl (by kernel_rfl) a w⟩
theorem fn11 : Fn1 Try.prog 11 := ⟨fun a w => run_callFunc Try.func11 rfl (by kernel_rfl) a w⟩
theorem fn12 : Fn1 Try.prog 12 := ⟨fun a w => run_callFunc Try.func12 rfl (by kernel_rfl) a w⟩
theorem fn13 : Fn1 Try.prog 13 := ⟨fun a w => run_callFunc Try.func13 rfl (by kernel_rfl) a w⟩
theorem fn14 : Fn1 Try.prog 14 := ⟨fun a w => run_callFunc Try.func14 rfl (by kernel_rfl) a w⟩
theorem fn15 : Fn1 Try.prog 15 := ⟨fun a w => run_callFunc Try.func15 rfl (by kernel_rfl) a w⟩
theorem fn16 : Fn1 Try.prog 16 := ⟨fun a w => run_callFunc Try.func16 rfl (by kernel_rfl) a w⟩
theorem fn17 : Fn1 Try.prog 17 := ⟨fun a w => run_callFunc Try.func17 rfl (by kernel_rfl) a w⟩
theorem fn18 : Fn1 Try.prog 18 := ⟨fun a w => run_callFunc Try.func18 rfl (by kernel_rfl) a w⟩
theorem fn19 : Fn1 Try.prog 19 := ⟨fun a w => run_callFunc Try.func19 rfl (by kernel_rfl) a w⟩
theorem fn20 : Fn1 Try.prog 20 := ⟨fun a w => run_callFunc Try.func20 rfl (by kernel_rfl) a w⟩
theorem fn21 : Fn1 Try.prog 21 := ⟨fun a w => run_callFunc Try.func21 rfl (by kernel_rfl) a w⟩
theorem fn22 : Fn1 Try.prog 22 := ⟨fun a w => run_callFunc Try.func22 rfl (by kernel_rfl) a w⟩
theorem fn23 : Fn1 Try.prog 23 := ⟨fun a w => run_callFunc Try.func23 rfl (by kernel_rfl) a w⟩
theorem fn24 : Fn1 Try.prog 24 := ⟨fun a w => run_callFunc Try.func24 rfl (by kernel_rfl) a w⟩
theorem fn25 : Fn1 Try.prog 25 := ⟨fun a w => run_callFunc Try.func25 rfl (by kernel_rfl) a w⟩
theorem fn26 : Fn1 Try.prog 26 := ⟨fun a w => run_callFunc Try.func26 rfl (by kernel_rfl) a w⟩
theorem fn27 : Fn1 Try.prog 27 := ⟨fun a w => run_callFunc Try.func27 rfl (by kernel_rfl) a w⟩
theorem fn28 : Fn1 Try.prog 28 := ⟨fun a w => run_callFunc Try.func28 rfl (by kernel_rfl) a w⟩
theorem fn29 : Fn1 Try.prog 29 := ⟨fun a w => run_callFunc Try.func29 rfl (by kernel_rfl) a w⟩
theorem fn30 : Fn1 Try.prog 30 := ⟨fun a w => run_callFunc Try.func30 rfl (by kernel_rfl) a w⟩
theorem fn31 : Fn1 Try.prog 31 := ⟨fun a w => run_callFunc Try.func31 rfl (by kernel_rfl) a w⟩
theorem fn32 : Fn1 Try.prog 32 := ⟨fun a w => run_callFunc Try.func32 rfl (by kernel_rfl) a w⟩
theorem fn33 : Fn1 Try.prog 33 := ⟨fun a w => run_callFunc Try.func33 rfl (by kernel_rfl) a w⟩
theorem fn34 : Fn1 Try.prog 34 := ⟨fun a w => run_callFunc Try.func34 rfl (by kernel_rfl) a w⟩
theorem fn35 : Fn1 Try.prog 35 := ⟨fun a w => run_callFunc Try.func35 rfl (by kernel_rfl) a w⟩
theorem fn36 : Fn1 Try.prog 36 := ⟨fun a w => run_callFunc Try.func36 rfl (by kernel_rfl) a w⟩
theorem fn37 : Fn1 Try.prog 37 := ⟨fun a w => run_callFunc Try.func37 rfl (by kernel_rfl) a w⟩
end Go.Proofs.Ytjcjbnkimpggeaa
