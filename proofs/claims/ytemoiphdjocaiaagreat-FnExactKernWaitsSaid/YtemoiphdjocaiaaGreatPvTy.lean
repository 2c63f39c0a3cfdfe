/-
  What the smaller functions answer. Conditions: none.
-/
import Derived.Test.YtemoiphdjocaiaaGreatPvCode
import Derived.KernelRfl
import Derived.Test.YtemoiphdjocaiaaGreatProg
import Derived.Test.YtemoiphdjocaiaaGreatPvSimp
set_option linter.all false
set_option linter.unusedSimpArgs false
set_option linter.unusedVariables false
namespace Go.Proofs.YtemoiphdjocaiaaGreat
open Go.Pv
theorem ty2 : mkTy Tryz.prog 2 = some ⟨1, false, [.int .i64 0], 8, .int .i64⟩ := by kernel_rfl
theorem ty3 : mkTy Tryz.prog 3 = some ⟨1, false, [.int .i64 0], 8, .int .i64⟩ := by kernel_rfl
theorem ty4 : mkTy Tryz.prog 4 = some ⟨1, false, [.bool false], 1, .bool⟩ := by kernel_rfl
theorem ty5 : mkTy Tryz.prog 5 = some ⟨1, false, [.int .u8 0], 1, .int .u8⟩ := by kernel_rfl
theorem ty9 : mkTy Tryz.prog 9 = some ⟨1, false, [.str ⟨#[]⟩], 16, .str⟩ := by kernel_rfl
theorem ty12 : mkTy Tryz.prog 12 = some ⟨1, false, [.int .u64 0], 8, .int .u64⟩ := by kernel_rfl
theorem ty21 : mkTy Tryz.prog 21 = some ⟨1, false, [.int .i32 0], 4, .int .i32⟩ := by kernel_rfl
theorem ty22 : mkTy Tryz.prog 22 = some ⟨1, false, [.sl 1 []], 24, .slice 9⟩ := by kernel_rfl
theorem ty23 : mkTy Tryz.prog 23 = some ⟨1, false, [.sl 1 []], 24, .slice 3⟩ := by kernel_rfl
theorem ty24 : mkTy Tryz.prog 24 = some ⟨2, true, [.sl 1 [], .sl 1 []], 48, .struct [(0, 1, false), (1, 1, false)]⟩ := by kernel_rfl
theorem ty25 : mkTy Tryz.prog 25 = some ⟨2, true, [.sl 1 [], .sl 1 []], 48, .struct [(0, 1, false), (1, 1, false)]⟩ := by kernel_rfl
theorem ty26 : mkTy Tryz.prog 26 = some ⟨1, false, [.sl 3 []], 24, .slice 176⟩ := by kernel_rfl
theorem ty27 : mkTy Tryz.prog 27 = some ⟨6, true, [.sl 1 [], .sl 1 [], .sl 1 [], .sl 1 [], .sl 3 [], .int .i64 0], 128, .struct [(0, 2, true), (2, 2, true), (4, 1, false), (5, 1, false)]⟩ := by kernel_rfl
theorem ty28 : mkTy Tryz.prog 28 = some ⟨6, true, [.sl 1 [], .sl 1 [], .sl 1 [], .sl 1 [], .sl 3 [], .int .i64 0], 128, .struct [(0, 2, true), (2, 2, true), (4, 1, false), (5, 1, false)]⟩ := by kernel_rfl
theorem ty29 : mkTy Tryz.prog 29 = some ⟨1, false, [.sl 1 []], 24, .slice 180⟩ := by kernel_rfl
theorem ty30 : mkTy Tryz.prog 30 = some ⟨2, true, [.sl 1 [], .int .i64 0], 32, .struct [(0, 1, false), (1, 1, false)]⟩ := by kernel_rfl
theorem ty31 : mkTy Tryz.prog 31 = some ⟨2, true, [.sl 1 [], .int .i64 0], 32, .struct [(0, 1, false), (1, 1, false)]⟩ := by kernel_rfl
theorem ty32 : mkTy Tryz.prog 32 = some ⟨1, false, [.sl 8 []], 24, .slice 131⟩ := by kernel_rfl
theorem ty33 : mkTy Tryz.prog 33 = some ⟨1, false, [.sl 3 []], 24, .slice 117⟩ := by kernel_rfl
theorem ty34 : mkTy Tryz.prog 34 = some ⟨1, false, [.sl 14 []], 24, .slice 123⟩ := by kernel_rfl
theorem ty35 : mkTy Tryz.prog 35 = some ⟨1, false, [.sl 4 []], 24, .slice 192⟩ := by kernel_rfl
theorem ty36 : mkTy Tryz.prog 36 = some ⟨2, true, [.sl 4 [], .int .i64 0], 32, .struct [(0, 1, false), (1, 1, false)]⟩ := by kernel_rfl
theorem ty37 : mkTy Tryz.prog 37 = some ⟨2, true, [.sl 4 [], .int .i64 0], 32, .struct [(0, 1, false), (1, 1, false)]⟩ := by kernel_rfl
theorem ty38 : mkTy Tryz.prog 38 = some ⟨13, true, [.sl 1 [], .sl 1 [], .sl 1 [], .sl 1 [], .sl 3 [], .int .i64 0, .sl 1 [], .int .i64 0, .sl 8 [], .sl 3 [], .sl 14 [], .sl 4 [], .int .i64 0], 264, .struct [(0, 6, true), (6, 2, true), (8, 1, false), (9, 1, false), (10, 1, false), (11, 2, true)]⟩ := by kernel_rfl
theorem ty39 : mkTy Tryz.prog 39 = some ⟨13, true, [.sl 1 [], .sl 1 [], .sl 1 [], .sl 1 [], .sl 3 [], .int .i64 0, .sl 1 [], .int .i64 0, .sl 8 [], .sl 3 [], .sl 14 [], .sl 4 [], .int .i64 0], 264, .struct [(0, 6, true), (6, 2, true), (8, 1, false), (9, 1, false), (10, 1, false), (11, 2, true)]⟩ := by kernel_rfl
theorem ty43 : mkTy Tryz.prog 43 = some ⟨2, true, [.sl 1 [], .sl 1 []], 48, .struct [(0, 1, false), (1, 1, false)]⟩ := by kernel_rfl
theorem ty44 : mkTy Tryz.prog 44 = some ⟨1, false, [.sl 3 []], 24, .slice 153⟩ := by kernel_rfl
theorem ty45 : mkTy Tryz.prog 45 = some ⟨6, true, [.sl 1 [], .sl 1 [], .sl 1 [], .sl 1 [], .sl 3 [], .int .i64 0], 128, .struct [(0, 2, true), (2, 2, true), (4, 1, false), (5, 1, false)]⟩ := by kernel_rfl
theorem ty46 : mkTy Tryz.prog 46 = some ⟨6, true, [.sl 1 [], .sl 1 [], .sl 1 [], .sl 1 [], .sl 3 [], .int .i64 0], 128, .struct [(0, 2, true), (2, 2, true), (4, 1, false), (5, 1, false)]⟩ := by kernel_rfl
theorem ty47 : mkTy Tryz.prog 47 = some ⟨1, false, [.sl 1 []], 24, .slice 157⟩ := by kernel_rfl
theorem ty48 : mkTy Tryz.prog 48 = some ⟨2, true, [.sl 1 [], .int .i64 0], 32, .struct [(0, 1, false), (1, 1, false)]⟩ := by kernel_rfl
theorem ty49 : mkTy Tryz.prog 49 = some ⟨2, true, [.sl 1 [], .int .i64 0], 32, .struct [(0, 1, false), (1, 1, false)]⟩ := by kernel_rfl
theorem ty50 : mkTy Tryz.prog 50 = some ⟨1, false, [.sl 8 []], 24, .slice 87⟩ := by kernel_rfl
theorem ty51 : mkTy Tryz.prog 51 = some ⟨1, false, [.sl 3 []], 24, .slice 98⟩ := by kernel_rfl
theorem ty52 : mkTy Tryz.prog 52 = some ⟨1, false, [.sl 14 []], 24, .slice 83⟩ := by kernel_rfl
theorem ty53 : mkTy Tryz.prog 53 = some ⟨1, false, [.sl 4 []], 24, .slice 149⟩ := by kernel_rfl
theorem ty54 : mkTy Tryz.prog 54 = some ⟨2, true, [.sl 4 [], .int .i64 0], 32, .struct [(0, 1, false), (1, 1, false)]⟩ := by kernel_rfl
theorem ty55 : mkTy Tryz.prog 55 = some ⟨2, true, [.sl 4 [], .int .i64 0], 32, .struct [(0, 1, false), (1, 1, false)]⟩ := by kernel_rfl
theorem ty56 : mkTy Tryz.prog 56 = some ⟨13, true, [.sl 1 [], .sl 1 [], .sl 1 [], .sl 1 [], .sl 3 [], .int .i64 0, .sl 1 [], .int .i64 0, .sl 8 [], .sl 3 [], .sl 14 [], .sl 4 [], .int .i64 0], 264, .struct [(0, 6, true), (6, 2, true), (8, 1, false), (9, 1, false), (10, 1, false), (11, 2, true)]⟩ := by kernel_rfl
theorem ty57 : mkTy Tryz.prog 57 = some ⟨13, true, [.sl 1 [], .sl 1 [], .sl 1 [], .sl 1 [], .sl 3 [], .int .i64 0, .sl 1 [], .int .i64 0, .sl 8 [], .sl 3 [], .sl 14 [], .sl 4 [], .int .i64 0], 264, .struct [(0, 6, true), (6, 2, true), (8, 1, false), (9, 1, false), (10, 1, false), (11, 2, true)]⟩ := by kernel_rfl
theorem ty75 : mkTy Tryz.prog 75 = some ⟨3, true, [.int .i64 0, .int .i64 0, .sl 1 []], 40, .struct [(0, 1, false), (1, 1, false), (2, 1, false)]⟩ := by kernel_rfl
theorem ty76 : mkTy Tryz.prog 76 = some ⟨3, true, [.int .i64 0, .int .i64 0, .sl 1 []], 40, .struct [(0, 1, false), (1, 1, false), (2, 1, false)]⟩ := by kernel_rfl
theorem ty77 : mkTy Tryz.prog 77 = some ⟨1, false, [.sl 1 []], 24, .slice 4⟩ := by kernel_rfl
theorem ty78 : mkTy Tryz.prog 78 = some ⟨3, true, [.sl 1 [], .sl 1 [], .sl 1 []], 72, .struct [(0, 1, false), (1, 1, false), (2, 1, false)]⟩ := by kernel_rfl
theorem ty79 : mkTy Tryz.prog 79 = some ⟨3, true, [.sl 1 [], .sl 1 [], .sl 1 []], 72, .struct [(0, 1, false), (1, 1, false), (2, 1, false)]⟩ := by kernel_rfl
theorem ty80 : mkTy Tryz.prog 80 = some ⟨2, true, [.int .i64 0, .int .i64 0], 16, .struct [(0, 1, false), (1, 1, false)]⟩ := by kernel_rfl
theorem ty81 : mkTy Tryz.prog 81 = some ⟨2, true, [.int .i64 0, .int .i64 0], 16, .struct [(0, 1, false), (1, 1, false)]⟩ := by kernel_rfl
theorem ty82 : mkTy Tryz.prog 82 = some ⟨14, true, [.int .i64 0, .int .i64 0, .int .i64 0, .int .i64 0, .int .i64 0, .sl 1 [], .int .i64 0, .sl 1 [], .sl 1 [], .sl 1 [], .sl 1 [], .int .i64 0, .int .i64 0, .int .i64 0], 192, .struct [(0, 1, false), (1, 1, false), (2, 1, false), (3, 3, true), (6, 1, false), (7, 1, false), (8, 3, true), (11, 2, true), (13, 1, false)]⟩ := by kernel_rfl
theorem ty83 : mkTy Tryz.prog 83 = some ⟨14, true, [.int .i64 0, .int .i64 0, .int .i64 0, .int .i64 0, .int .i64 0, .sl 1 [], .int .i64 0, .sl 1 [], .sl 1 [], .sl 1 [], .sl 1 [], .int .i64 0, .int .i64 0, .int .i64 0], 192, .struct [(0, 1, false), (1, 1, false), (2, 1, false), (3, 3, true), (6, 1, false), (7, 1, false), (8, 3, true), (11, 2, true), (13, 1, false)]⟩ := by kernel_rfl
theorem ty86 : mkTy Tryz.prog 86 = some ⟨8, true, [.int .i64 0, .int .i64 0, .int .i64 0, .int .i64 0, .int .i64 0, .bool false, .bool false, .bool false], 48, .struct [(0, 1, false), (1, 2, true), (3, 1, false), (4, 1, false), (5, 1, false), (6, 1, false), (7, 1, false)]⟩ := by kernel_rfl
theorem ty87 : mkTy Tryz.prog 87 = some ⟨8, true, [.int .i64 0, .int .i64 0, .int .i64 0, .int .i64 0, .int .i64 0, .bool false, .bool false, .bool false], 48, .struct [(0, 1, false), (1, 2, true), (3, 1, false), (4, 1, false), (5, 1, false), (6, 1, false), (7, 1, false)]⟩ := by kernel_rfl
theorem ty97 : mkTy Tryz.prog 97 = some ⟨3, true, [.str ⟨#[]⟩, .int .i64 0, .int .i64 0], 32, .struct [(0, 1, false), (1, 1, false), (2, 1, false)]⟩ := by kernel_rfl
theorem ty98 : mkTy Tryz.prog 98 = some ⟨3, true, [.str ⟨#[]⟩, .int .i64 0, .int .i64 0], 32, .struct [(0, 1, false), (1, 1, false), (2, 1, false)]⟩ := by kernel_rfl
theorem ty112 : mkTy Tryz.prog 112 = some ⟨1, false, [.undef], 8, .map 3 4⟩ := by kernel_rfl
theorem ty117 : mkTy Tryz.prog 117 = some ⟨3, true, [.str ⟨#[]⟩, .int .i64 0, .int .i64 0], 32, .struct [(0, 1, false), (1, 1, false), (2, 1, false)]⟩ := by kernel_rfl
theorem ty119 : mkTy Tryz.prog 119 = some ⟨3, true, [.int .i64 0, .int .i64 0, .sl 1 []], 40, .struct [(0, 1, false), (1, 1, false), (2, 1, false)]⟩ := by kernel_rfl
theorem ty120 : mkTy Tryz.prog 120 = some ⟨3, true, [.sl 1 [], .sl 1 [], .sl 1 []], 72, .struct [(0, 1, false), (1, 1, false), (2, 1, false)]⟩ := by kernel_rfl
theorem ty121 : mkTy Tryz.prog 121 = some ⟨2, true, [.int .i64 0, .int .i64 0], 16, .struct [(0, 1, false), (1, 1, false)]⟩ := by kernel_rfl
theorem ty122 : mkTy Tryz.prog 122 = some ⟨14, true, [.int .i64 0, .int .i64 0, .int .i64 0, .int .i64 0, .int .i64 0, .sl 1 [], .int .i64 0, .sl 1 [], .sl 1 [], .sl 1 [], .sl 1 [], .int .i64 0, .int .i64 0, .int .i64 0], 192, .struct [(0, 1, false), (1, 1, false), (2, 1, false), (3, 3, true), (6, 1, false), (7, 1, false), (8, 3, true), (11, 2, true), (13, 1, false)]⟩ := by kernel_rfl
theorem ty123 : mkTy Tryz.prog 123 = some ⟨14, true, [.int .i64 0, .int .i64 0, .int .i64 0, .int .i64 0, .int .i64 0, .sl 1 [], .int .i64 0, .sl 1 [], .sl 1 [], .sl 1 [], .sl 1 [], .int .i64 0, .int .i64 0, .int .i64 0], 192, .struct [(0, 1, false), (1, 1, false), (2, 1, false), (3, 3, true), (6, 1, false), (7, 1, false), (8, 3, true), (11, 2, true), (13, 1, false)]⟩ := by kernel_rfl
theorem ty130 : mkTy Tryz.prog 130 = some ⟨8, true, [.int .i64 0, .int .i64 0, .int .i64 0, .int .i64 0, .int .i64 0, .bool false, .bool false, .bool false], 48, .struct [(0, 1, false), (1, 2, true), (3, 1, false), (4, 1, false), (5, 1, false), (6, 1, false), (7, 1, false)]⟩ := by kernel_rfl
theorem ty131 : mkTy Tryz.prog 131 = some ⟨8, true, [.int .i64 0, .int .i64 0, .int .i64 0, .int .i64 0, .int .i64 0, .bool false, .bool false, .bool false], 48, .struct [(0, 1, false), (1, 2, true), (3, 1, false), (4, 1, false), (5, 1, false), (6, 1, false), (7, 1, false)]⟩ := by kernel_rfl
theorem ty138 : mkTy Tryz.prog 138 = some ⟨1, false, [.undef], 8, .map 81 3⟩ := by kernel_rfl
theorem ty144 : mkTy Tryz.prog 144 = some ⟨1, false, [.sl 2 []], 24, .slice 237⟩ := by kernel_rfl
theorem ty145 : mkTy Tryz.prog 145 = some ⟨9, true, [.int .i64 0, .int .i64 0, .int .i64 0, .int .i64 0, .int .i64 0, .int .i64 0, .bool false, .str ⟨#[]⟩, .sl 2 []], 96, .struct [(0, 1, false), (1, 1, false), (2, 1, false), (3, 1, false), (4, 1, false), (5, 1, false), (6, 1, false), (7, 1, false), (8, 1, false)]⟩ := by kernel_rfl
theorem ty146 : mkTy Tryz.prog 146 = some ⟨9, true, [.int .i64 0, .int .i64 0, .int .i64 0, .int .i64 0, .int .i64 0, .int .i64 0, .bool false, .str ⟨#[]⟩, .sl 2 []], 96, .struct [(0, 1, false), (1, 1, false), (2, 1, false), (3, 1, false), (4, 1, false), (5, 1, false), (6, 1, false), (7, 1, false), (8, 1, false)]⟩ := by kernel_rfl
theorem ty148 : mkTy Tryz.prog 148 = some ⟨4, true, [.int .i64 0, .int .i64 0, .int .i64 0, .bool false], 32, .struct [(0, 1, false), (1, 1, false), (2, 1, false), (3, 1, false)]⟩ := by kernel_rfl
theorem ty149 : mkTy Tryz.prog 149 = some ⟨4, true, [.int .i64 0, .int .i64 0, .int .i64 0, .bool false], 32, .struct [(0, 1, false), (1, 1, false), (2, 1, false), (3, 1, false)]⟩ := by kernel_rfl
theorem ty150 : mkTy Tryz.prog 150 = some ⟨1, false, [.sl 4 []], 24, .slice 232⟩ := by kernel_rfl
theorem ty151 : mkTy Tryz.prog 151 = some ⟨1, false, [.sl 4 []], 24, .slice 197⟩ := by kernel_rfl
theorem ty152 : mkTy Tryz.prog 152 = some ⟨3, true, [.bool false, .sl 4 [], .sl 4 []], 56, .struct [(0, 1, false), (1, 1, false), (2, 1, false)]⟩ := by kernel_rfl
theorem ty153 : mkTy Tryz.prog 153 = some ⟨3, true, [.bool false, .sl 4 [], .sl 4 []], 56, .struct [(0, 1, false), (1, 1, false), (2, 1, false)]⟩ := by kernel_rfl
theorem ty155 : mkTy Tryz.prog 155 = some ⟨1, false, [.sl 9 []], 24, .slice 146⟩ := by kernel_rfl
theorem ty156 : mkTy Tryz.prog 156 = some ⟨1, true, [.sl 9 []], 24, .struct [(0, 1, false)]⟩ := by kernel_rfl
theorem ty157 : mkTy Tryz.prog 157 = some ⟨1, true, [.sl 9 []], 24, .struct [(0, 1, false)]⟩ := by kernel_rfl
theorem ty173 : mkTy Tryz.prog 173 = some ⟨1, false, [.sl 4 []], 24, .slice 255⟩ := by kernel_rfl
theorem ty174 : mkTy Tryz.prog 174 = some ⟨1, false, [.sl 4 []], 24, .slice 257⟩ := by kernel_rfl
theorem ty175 : mkTy Tryz.prog 175 = some ⟨3, true, [.bool false, .sl 4 [], .sl 4 []], 56, .struct [(0, 1, false), (1, 1, false), (2, 1, false)]⟩ := by kernel_rfl
theorem ty176 : mkTy Tryz.prog 176 = some ⟨3, true, [.bool false, .sl 4 [], .sl 4 []], 56, .struct [(0, 1, false), (1, 1, false), (2, 1, false)]⟩ := by kernel_rfl
theorem ty178 : mkTy Tryz.prog 178 = some ⟨1, false, [.sl 9 []], 24, .slice 249⟩ := by kernel_rfl
theorem ty179 : mkTy Tryz.prog 179 = some ⟨1, true, [.sl 9 []], 24, .struct [(0, 1, false)]⟩ := by kernel_rfl
theorem ty180 : mkTy Tryz.prog 180 = some ⟨1, true, [.sl 9 []], 24, .struct [(0, 1, false)]⟩ := by kernel_rfl
theorem ty192 : mkTy Tryz.prog 192 = some ⟨4, true, [.int .i64 0, .int .i64 0, .int .i64 0, .bool false], 32, .struct [(0, 1, false), (1, 1, false), (2, 1, false), (3, 1, false)]⟩ := by kernel_rfl
theorem ty194 : mkTy Tryz.prog 194 = some ⟨1, false, [.undef], 8, .map 199 200⟩ := by kernel_rfl
theorem ty196 : mkTy Tryz.prog 196 = some ⟨4, true, [.int .i64 0, .int .i64 0, .bool false, .bool false], 24, .struct [(0, 1, false), (1, 1, false), (2, 1, false), (3, 1, false)]⟩ := by kernel_rfl
theorem ty197 : mkTy Tryz.prog 197 = some ⟨4, true, [.int .i64 0, .int .i64 0, .bool false, .bool false], 24, .struct [(0, 1, false), (1, 1, false), (2, 1, false), (3, 1, false)]⟩ := by kernel_rfl
theorem ty199 : mkTy Tryz.prog 199 = some ⟨2, true, [.int .i64 0, .int .i64 0], 16, .array 2 3⟩ := by kernel_rfl
theorem ty200 : mkTy Tryz.prog 200 = some ⟨1, false, [.sl 2 []], 24, .slice 202⟩ := by kernel_rfl
theorem ty201 : mkTy Tryz.prog 201 = some ⟨2, true, [.bool false, .bool false], 2, .struct [(0, 1, false), (1, 1, false)]⟩ := by kernel_rfl
theorem ty202 : mkTy Tryz.prog 202 = some ⟨2, true, [.bool false, .bool false], 2, .struct [(0, 1, false), (1, 1, false)]⟩ := by kernel_rfl
theorem ty203 : mkTy Tryz.prog 203 = some ⟨1, false, [.undef], 8, .map 3 43⟩ := by kernel_rfl
theorem ty216 : mkTy Tryz.prog 216 = some ⟨1, false, [.sl 1 []], 24, .slice 5⟩ := by kernel_rfl
theorem ty226 : mkTy Tryz.prog 226 = some ⟨1, false, [.sl 1 []], 24, .slice 23⟩ := by kernel_rfl
theorem ty231 : mkTy Tryz.prog 231 = some ⟨4, true, [.int .i64 0, .int .i64 0, .bool false, .bool false], 24, .struct [(0, 1, false), (1, 1, false), (2, 1, false), (3, 1, false)]⟩ := by kernel_rfl
theorem ty232 : mkTy Tryz.prog 232 = some ⟨4, true, [.int .i64 0, .int .i64 0, .bool false, .bool false], 24, .struct [(0, 1, false), (1, 1, false), (2, 1, false), (3, 1, false)]⟩ := by kernel_rfl
theorem ty236 : mkTy Tryz.prog 236 = some ⟨2, true, [.str ⟨#[]⟩, .int .i64 0], 24, .struct [(0, 1, false), (1, 1, false)]⟩ := by kernel_rfl
theorem ty237 : mkTy Tryz.prog 237 = some ⟨2, true, [.str ⟨#[]⟩, .int .i64 0], 24, .struct [(0, 1, false), (1, 1, false)]⟩ := by kernel_rfl
theorem ty247 : mkTy Tryz.prog 247 = some ⟨1, false, [.sl 2 []], 24, .slice 270⟩ := by kernel_rfl
theorem ty248 : mkTy Tryz.prog 248 = some ⟨9, true, [.int .i64 0, .int .i64 0, .int .i64 0, .int .i64 0, .int .i64 0, .int .i64 0, .bool false, .str ⟨#[]⟩, .sl 2 []], 96, .struct [(0, 1, false), (1, 1, false), (2, 1, false), (3, 1, false), (4, 1, false), (5, 1, false), (6, 1, false), (7, 1, false), (8, 1, false)]⟩ := by kernel_rfl
theorem ty249 : mkTy Tryz.prog 249 = some ⟨9, true, [.int .i64 0, .int .i64 0, .int .i64 0, .int .i64 0, .int .i64 0, .int .i64 0, .bool false, .str ⟨#[]⟩, .sl 2 []], 96, .struct [(0, 1, false), (1, 1, false), (2, 1, false), (3, 1, false), (4, 1, false), (5, 1, false), (6, 1, false), (7, 1, false), (8, 1, false)]⟩ := by kernel_rfl
theorem ty255 : mkTy Tryz.prog 255 = some ⟨4, true, [.int .i64 0, .int .i64 0, .bool false, .bool false], 24, .struct [(0, 1, false), (1, 1, false), (2, 1, false), (3, 1, false)]⟩ := by kernel_rfl
theorem ty257 : mkTy Tryz.prog 257 = some ⟨4, true, [.int .i64 0, .int .i64 0, .bool false, .bool false], 24, .struct [(0, 1, false), (1, 1, false), (2, 1, false), (3, 1, false)]⟩ := by kernel_rfl
theorem ty270 : mkTy Tryz.prog 270 = some ⟨2, true, [.str ⟨#[]⟩, .int .i64 0], 24, .struct [(0, 1, false), (1, 1, false)]⟩ := by kernel_rfl
theorem ty279 : mkTy Tryz.prog 279 = some ⟨1, false, [.int .u32 0], 4, .int .u32⟩ := by kernel_rfl
theorem mixed : Tryz.prog.follows .mixedOrders = true := by kernel_rfl
set_option linter.defProp false
def pvTy := And.intro @ty2 (And.intro @ty3 (And.intro @ty4 (And.intro @ty5 (And.intro @ty9 (And.intro @ty12 (And.intro @ty21 (And.intro @ty22 (And.intro @ty23 (And.intro @ty24 (And.intro @ty25 (And.intro @ty26 (And.intro @ty27 (And.intro @ty28 (And.intro @ty29 (And.intro @ty30 (And.intro @ty31 (And.intro @ty32 (And.intro @ty33 (And.intro @ty34 (And.intro @ty35 (And.intro @ty36 (And.intro @ty37 (And.intro @ty38 (And.intro @ty39 (And.intro @ty43 (And.intro @ty44 (And.intro @ty45 (And.intro @ty46 (And.intro @ty47 (And.intro @ty48 (And.intro @ty49 (And.intro @ty50 (And.intro @ty51 (And.intro @ty52 (And.intro @ty53 (And.intro @ty54 (And.intro @ty55 (And.intro @ty56 (And.intro @ty57 (And.intro @ty75 (And.intro @ty76 (And.intro @ty77 (And.intro @ty78 (And.intro @ty79 (And.intro @ty80 (And.intro @ty81 (And.intro @ty82 (And.intro @ty83 (And.intro @ty86 (And.intro @ty87 (And.intro @ty97 (And.intro @ty98 (And.intro @ty112 (And.intro @ty117 (And.intro @ty119 (And.intro @ty120 (And.intro @ty121 (And.intro @ty122 (And.intro @ty123 (And.intro @ty130 (And.intro @ty131 (And.intro @ty138 (And.intro @ty144 (And.intro @ty145 (And.intro @ty146 (And.intro @ty148 (And.intro @ty149 (And.intro @ty150 (And.intro @ty151 (And.intro @ty152 (And.intro @ty153 (And.intro @ty155 (And.intro @ty156 (And.intro @ty157 (And.intro @ty173 (And.intro @ty174 (And.intro @ty175 (And.intro @ty176 (And.intro @ty178 (And.intro @ty179 (And.intro @ty180 (And.intro @ty192 (And.intro @ty194 (And.intro @ty196 (And.intro @ty197 (And.intro @ty199 (And.intro @ty200 (And.intro @ty201 (And.intro @ty202 (And.intro @ty203 (And.intro @ty216 (And.intro @ty226 (And.intro @ty231 (And.intro @ty232 (And.intro @ty236 (And.intro @ty237 (And.intro @ty247 (And.intro @ty248 (And.intro @ty249 (And.intro @ty255 (And.intro @ty257 (And.intro @ty270 @ty279))))))))))))))))))))))))))))))))))))))))))))))))))))))))))))))))))))))))))))))))))))))))))))))))))))))
end Go.Proofs.YtemoiphdjocaiaaGreat

namespace Go.Proofs.YtemoiphdjocaiaaGreat
open Go.Pv
set_option linter.defProp false
def pvP := And.intro @prep_mk (And.intro @List.map_nil.{0,0} (And.intro @List.map_cons.{0,0} (And.intro @prepO_none (@prepO_some))))
def pvB := And.intro pvAll (And.intro pvStd (And.intro pvTy (And.intro @rBox.eq_1 (And.intro @rFieldAddr.eq_1 (And.intro @rLoad.eq_1 (And.intro @rLen.eq_1 (And.intro @rCall.eq_1 (And.intro @rCall.eq_2 (And.intro @rIndexAddr.eq_1 (And.intro @rIndexAddr.eq_2 (And.intro @rField.eq_1 (And.intro @rField.eq_2 (And.intro @rExtract.eq_1 (And.intro @rExtract.eq_2 (And.intro @rNot.eq_1 (And.intro @rNot.eq_2 (And.intro @rNeg.eq_1 (And.intro @rNeg.eq_2 (And.intro @rStore.eq_1 (And.intro @rAlloc.eq_1 (And.intro @rIndex.eq_1 (@rIndex.eq_2))))))))))))))))))))))
def pvRr := And.intro @rMake.eq_1 (And.intro @rMake.eq_2 (And.intro @rBuildSlice.eq_1 (And.intro @rAppend.eq_1 (And.intro @rAppend.eq_2 (And.intro @rAppend.eq_3 (And.intro @rAppend.eq_4 (And.intro @rSlice.eq_1 (And.intro @rSlice.eq_2 (And.intro @readSl.eq_1 (And.intro @readSl.eq_2 (And.intro @readSl.eq_3 (@readSl.eq_4))))))))))))
def pvMm := And.intro @rRange.eq_1 (And.intro @rRange.eq_2 (And.intro @rRange.eq_3 (And.intro @rMakeMap.eq_1 (And.intro @rLookup.eq_1 (And.intro @rLookup.eq_2 (And.intro @rMapEntry.eq_1 (And.intro @rMapEntry.eq_2 (And.intro @rMapUpdate.eq_1 (And.intro @rMapUpdate.eq_2 (And.intro @rEntryStore.eq_1 (And.intro @rEntryStore.eq_2 (And.intro @rEntry.eq_1 (And.intro @rEntry.eq_2 (And.intro @vcNm.eq_1 (And.intro @vcNm.eq_2 (And.intro @vcNs.eq_1 (@vcNs.eq_2)))))))))))))))))
def pvLl := And.intro @List.set_set.{0} (And.intro @List.take_succ_cons.{0} (And.intro @List.take_zero.{0} (And.intro @List.drop_succ_cons.{0} (And.intro @List.drop_zero.{0} (And.intro @List.set_cons_succ.{0} (And.intro @List.set_cons_zero.{0} (And.intro @List.length_cons.{0} (And.intro @List.length_nil.{0} (And.intro @List.append_assoc.{0} (And.intro @List.cons_append.{0} (And.intro @List.nil_append.{0} (And.intro @Nat.add_zero (@Nat.zero_add)))))))))))))
theorem eqS_refl (s : ByteArray) : eqS s s = true := by simp [eqS]
theorem q_nt : (!true) = false := rfl
theorem q_ft : (false = true) = False := by simp
theorem imp_ff {p : Prop} : (False → p) = True := by simp
theorem imp_tt {p : Prop} : (True → p) = p := by simp
def pvEe := And.intro @eqS_refl (And.intro @q_nt (And.intro @q_ft (And.intro @imp_ff (And.intro @imp_tt (@beq_self_eq_true.{0})))))
end Go.Proofs.YtemoiphdjocaiaaGreat

namespace Go.Proofs.YtemoiphdjocaiaaGreat
open Go.Pv
set_option linter.unusedSimpArgs false
set_option maxRecDepth 100000
set_option maxHeartbeats 4000000

def inB (n l h : Int) : Bool := decide (n ≥ l) && decide (n ≤ h)
def w64 (n : Int) : Int := IntKind.i64.wrap n
def aliveP (p : Proc) : Bool := inB p.state 1 3
def pipeOk (p : Pipe) : Bool := decide ((p.text.size : Int) ≤ 8) && inB p.readers 0 99 && inB p.writers 0 99 && (decide (p.readers > 0) || eqS p.text ⟨#[]⟩)
def pipeTake (p : Pipe) : Bool := pipeOk p && (!eqS p.text ⟨#[]⟩ || decide (p.writers = 0))
def pipePut (p : Pipe) : Bool := pipeOk p && (decide ((p.text.size : Int) < 8) || decide (p.readers = 0))
def areaOk (a : Area) : Bool := inB a.from_ 0 15 && inB a.many 1 (IntKind.i64.wrap (16 - a.from_))
def nodeZero (n : Inode) : Bool := decide (n.kind = 0) && decide (n.mode = 0) && decide (n.owner = 0) && decide (n.group = 0) && decide (n.links = 0) && decide (n.opens = 0) && !n.mark && eqS n.text ⟨#[]⟩ && decide ((n.names.length : Int) = 0)

def an26 : List PV → PV
  | [.int _ n, .int _ l, .int _ h] => .bool (inB n l h)
  | _ => .undef
theorem pc26 (n l h : Int) : PC Tryz.prog 26 [.int .i64 n, .int .i64 l, .int .i64 h] (.bool (inB n l h)) := by
  refine PC.of_vc mixed (phiOf []) Tryz.func26 (by kernel_rfl) (rfl : Tryz.f26.body = some _) Tryz.ntmps26 (by kernel_rfl) rfl (by kernel_rfl) Tryz.results26 fun hwf => ?_
  simp only [pvB, ↓pvP, simprocAttr]
  exact Le.refl _

def an35 : List PV → PV
  | [.int _ n, .int _ l, .int _ h] => .bool (inB n l h)
  | _ => .undef
theorem pc35 (n l h : Int) : PC Tryz.prog 35 [.int .i64 n, .int .i64 l, .int .i64 h] (.bool (inB n l h)) := by
  refine PC.of_vc mixed (phiOf []) Tryz.func35 (by kernel_rfl) (rfl : Tryz.f35.body = some _) Tryz.ntmps35 (by kernel_rfl) rfl (by kernel_rfl) Tryz.results35 fun hwf => ?_
  simp only [pvB, ↓pvP, simprocAttr]
  exact Le.refl _

def an58 : List PV → PV
  | [.agg cs] => .bool (aliveP (Proc.dec cs))
  | _ => .undef
theorem pc58 (p : Proc) : PC Tryz.prog 58 [.agg [.int .i64 p.state, .int .i64 p.parent, .int .i64 p.code, .int .i64 p.who.user, .int .i64 p.who.real, .sl 1 (p.who.groups.map encI), .int .i64 p.space, .sl 1 (p.fds.map encI), .sl 1 (p.sigs.here.map encB), .sl 1 (p.sigs.block.map encB), .sl 1 (p.sigs.does.map encI), .int .i64 p.dir.fs, .int .i64 p.dir.id, .int .i64 p.on]] (.bool (aliveP p)) := by
  refine PC.of_vc mixed (phiOf [(26, an26)]) Tryz.func58 (by kernel_rfl) (rfl : Tryz.f58.body = some _) Tryz.ntmps58 (by kernel_rfl) rfl (by kernel_rfl) Tryz.results58 fun hwf => ?_
  simp only [pvB, ↓pvP, simprocAttr, an26, pc26, Proc.dec, Proc.eta]
  exact Le.refl _

def an36 : List PV → PV
  | [.agg cs] => .bool (aliveP (Proc.dec cs))
  | _ => .undef
theorem pc36 (p : Proc) : PC Tryz.prog 36 [.agg [.int .i64 p.state, .int .i64 p.parent, .int .i64 p.code, .int .i64 p.who.user, .int .i64 p.who.real, .sl 1 (p.who.groups.map encI), .int .i64 p.space, .sl 1 (p.fds.map encI), .sl 1 (p.sigs.here.map encB), .sl 1 (p.sigs.block.map encB), .sl 1 (p.sigs.does.map encI), .int .i64 p.dir.fs, .int .i64 p.dir.id, .int .i64 p.on]] (.bool (aliveP p)) := by
  refine PC.of_vc mixed (phiOf [(35, an35)]) Tryz.func36 (by kernel_rfl) (rfl : Tryz.f36.body = some _) Tryz.ntmps36 (by kernel_rfl) rfl (by kernel_rfl) Tryz.results36 fun hwf => ?_
  simp only [pvB, ↓pvP, simprocAttr, an35, pc35, Proc.dec, Proc.eta]
  exact Le.refl _

def an102 : List PV → PV
  | [.agg cs] => .bool (pipeOk (Pipe.dec cs))
  | _ => .undef
theorem pc102 (p : Pipe) : PC Tryz.prog 102 [.agg [.str p.text, .int .i64 p.readers, .int .i64 p.writers]] (.bool (pipeOk p)) := by
  refine PC.of_vc mixed (phiOf [(26, an26)]) Tryz.func102 (by kernel_rfl) (rfl : Tryz.f102.body = some _) Tryz.ntmps102 (by kernel_rfl) rfl (by kernel_rfl) Tryz.results102 fun hwf => ?_
  simp only [pvB, ↓pvP, simprocAttr, an26, pc26, Pipe.dec, Pipe.eta]
  exact Le.refl _

def an78 : List PV → PV
  | [.agg cs] => .bool (pipeOk (Pipe.dec cs))
  | _ => .undef
theorem pc78 (p : Pipe) : PC Tryz.prog 78 [.agg [.str p.text, .int .i64 p.readers, .int .i64 p.writers]] (.bool (pipeOk p)) := by
  refine PC.of_vc mixed (phiOf [(35, an35)]) Tryz.func78 (by kernel_rfl) (rfl : Tryz.f78.body = some _) Tryz.ntmps78 (by kernel_rfl) rfl (by kernel_rfl) Tryz.results78 fun hwf => ?_
  simp only [pvB, ↓pvP, simprocAttr, an35, pc35, Pipe.dec, Pipe.eta]
  exact Le.refl _

def an59 : List PV → PV
  | [.agg cs] => .tup [.bool (pipeTake (Pipe.dec cs)), .bool (pipePut (Pipe.dec cs))]
  | _ => .undef
theorem pc59 (p : Pipe) : PC Tryz.prog 59 [.agg [.str p.text, .int .i64 p.readers, .int .i64 p.writers]] (.tup [.bool (pipeTake p), .bool (pipePut p)]) := by
  refine PC.of_vc mixed (phiOf [(102, an102)]) Tryz.func59 (by kernel_rfl) (rfl : Tryz.f59.body = some _) Tryz.ntmps59 (by kernel_rfl) rfl (by kernel_rfl) Tryz.results59 fun hwf => ?_
  simp only [pvB, ↓pvP, simprocAttr, an102, pc102, Pipe.dec, Pipe.eta]
  cases h : pipeOk p <;> simp [pipeTake, pipePut, h, Le.refl]

def an37 : List PV → PV
  | [.agg cs] => .tup [.bool (pipeTake (Pipe.dec cs)), .bool (pipePut (Pipe.dec cs))]
  | _ => .undef
theorem pc37 (p : Pipe) : PC Tryz.prog 37 [.agg [.str p.text, .int .i64 p.readers, .int .i64 p.writers]] (.tup [.bool (pipeTake p), .bool (pipePut p)]) := by
  refine PC.of_vc mixed (phiOf [(78, an78)]) Tryz.func37 (by kernel_rfl) (rfl : Tryz.f37.body = some _) Tryz.ntmps37 (by kernel_rfl) rfl (by kernel_rfl) Tryz.results37 fun hwf => ?_
  simp only [pvB, ↓pvP, simprocAttr, an78, pc78, Pipe.dec, Pipe.eta]
  cases h : pipeOk p <;> simp [pipeTake, pipePut, h, Le.refl]

def an189 : List PV → PV
  | [.agg cs] => .bool (areaOk (Area.dec cs))
  | _ => .undef
theorem pc189 (p : Area) : PC Tryz.prog 189 [.agg [.int .i64 p.from_, .int .i64 p.many, .bool p.write, .bool p.shared]] (.bool (areaOk p)) := by
  refine PC.of_vc mixed (phiOf [(26, an26)]) Tryz.func189 (by kernel_rfl) (rfl : Tryz.f189.body = some _) Tryz.ntmps189 (by kernel_rfl) rfl (by kernel_rfl) Tryz.results189 fun hwf => ?_
  simp only [pvB, ↓pvP, simprocAttr, an26, pc26, Area.dec, Area.eta]
  exact Le.refl _

def an157 : List PV → PV
  | [.agg cs] => .bool (areaOk (Area.dec cs))
  | _ => .undef
theorem pc157 (p : Area) : PC Tryz.prog 157 [.agg [.int .i64 p.from_, .int .i64 p.many, .bool p.write, .bool p.shared]] (.bool (areaOk p)) := by
  refine PC.of_vc mixed (phiOf [(35, an35)]) Tryz.func157 (by kernel_rfl) (rfl : Tryz.f157.body = some _) Tryz.ntmps157 (by kernel_rfl) rfl (by kernel_rfl) Tryz.results157 fun hwf => ?_
  simp only [pvB, ↓pvP, simprocAttr, an35, pc35, Area.dec, Area.eta]
  exact Le.refl _

def an190 : List PV → PV
  | [.agg cs] => .bool (nodeZero (Inode.dec cs))
  | _ => .undef
theorem pc190 (p : Inode) : PC Tryz.prog 190 [.agg [.int .i64 p.kind, .int .i64 p.mode, .int .i64 p.owner, .int .i64 p.group, .int .i64 p.links, .int .i64 p.opens, .bool p.mark, .str p.text, .sl 2 (p.names.map Entry.enc)]] (.bool (nodeZero p)) := by
  refine PC.of_vc mixed (phiOf []) Tryz.func190 (by kernel_rfl) (rfl : Tryz.f190.body = some _) Tryz.ntmps190 (by kernel_rfl) rfl (by kernel_rfl) Tryz.results190 fun hwf => ?_
  simp only [pvB, ↓pvP, simprocAttr, Inode.dec, Inode.eta]
  exact Le.refl _

def an161 : List PV → PV
  | [.agg cs] => .bool (nodeZero (Inode.dec cs))
  | _ => .undef
theorem pc161 (p : Inode) : PC Tryz.prog 161 [.agg [.int .i64 p.kind, .int .i64 p.mode, .int .i64 p.owner, .int .i64 p.group, .int .i64 p.links, .int .i64 p.opens, .bool p.mark, .str p.text, .sl 2 (p.names.map Entry.enc)]] (.bool (nodeZero p)) := by
  refine PC.of_vc mixed (phiOf []) Tryz.func161 (by kernel_rfl) (rfl : Tryz.f161.body = some _) Tryz.ntmps161 (by kernel_rfl) rfl (by kernel_rfl) Tryz.results161 fun hwf => ?_
  simp only [pvB, ↓pvP, simprocAttr, Inode.dec, Inode.eta]
  exact Le.refl _

end Go.Proofs.YtemoiphdjocaiaaGreat

namespace Go.Proofs.YtemoiphdjocaiaaGreat
open Go.Pv
set_option linter.unusedSimpArgs false
set_option maxRecDepth 100000
set_option maxHeartbeats 4000000

def credGr (g : List Int) (i : Nat) : Bool := inB (g.getD i 0) 0 9 && (decide (i = 0) || decide (g.getD (i - 1) 0 < g.getD i 0))
def credOk (c : Cred) : Bool := (List.range c.groups.length).all (credGr c.groups) && (inB c.user 0 9 && inB c.real 0 9 && decide ((c.groups.length : Int) ≤ 3))
def an177 : List PV → PV
  | [.int _ n] => .bool (inB n 0 9)
  | _ => .undef

theorem pc177 (n : Int) : PC Tryz.prog 177 [.int .i64 n] (.bool (inB n 0 9)) := by
  refine PC.of_vc mixed (phiOf [(26, an26)]) Tryz.func177 (by kernel_rfl) (rfl : Tryz.f177.body = some _) Tryz.ntmps177 (by kernel_rfl) rfl (by kernel_rfl) Tryz.results177 fun hwf => ?_
  simp only [pvB, ↓pvP, simprocAttr, an26, pc26]
  exact Le.refl _

theorem w64_of {n : Int} (h1 : -9223372036854775808 ≤ n) (h2 : n ≤ 9223372036854775807) : IntKind.i64.wrap n = n := by
  have e : IntKind.i64.wrap n = if n % 18446744073709551616 ≥ 9223372036854775808 then n % 18446744073709551616 - 18446744073709551616 else n % 18446744073709551616 := by
    unfold IntKind.wrap
    simp only [show IntKind.i64.bits = 64 from rfl, show IntKind.i64.signed = true from rfl]
    simp
  rw [e]
  split <;> omega

theorem pc149 (p : Cred) : PC Tryz.prog 149 [.agg [.int .i64 p.user, .int .i64 p.real, .sl 1 (p.groups.map encI)]] (.bool (credOk p)) := by
  refine PC.of_vc mixed (phiOf [(177, an177)]) Tryz.func149 (by kernel_rfl) (rfl : Tryz.f149.body = some _) Tryz.ntmps149 (by kernel_rfl) rfl (by kernel_rfl) Tryz.results149 fun hwf => ?_
  simp only [pvB, ↓pvP, pvDom, simprocAttr, an177, pc177]
  simp only [pvAll, pvStd, pvDom] at hwf
  refine .inl ⟨[1, 3], fun _ => 1, fun k vs H => ∃ i : Nat, i ≤ p.groups.length ∧ k = p.groups.length - i ∧ vs = [.ptr 0 3 0 0, .int .i64 i] ∧ H = [.rows 76 3 [[.int .i64 p.user, .int .i64 p.real, .sl 1 (p.groups.map encI)]]] ∧ ∀ j, j < i → credGr p.groups j = true, fun _ => Nat.zero_le _, ?_, ?_⟩
  · simp only [pvB, ↓pvP, pvDom, simprocAttr]
    exact ⟨_, 0, Nat.zero_le _, rfl, rfl, fun j hj => absurd hj (Nat.not_lt_zero j)⟩
  · rintro k vs H - ⟨i, hi, rfl, rfl, rfl, hP⟩
    simp only [pvB, ↓pvP, pvDom, simprocAttr, an177, pc177]
    trace_state
    refine ⟨fun h1 => ?_, fun h1 => ?_⟩
    · have h1 : i < p.groups.length := by simpa using h1
      have e1 : IntKind.i64.wrap ((i : Int) + 1) = ((i + 1 : Nat) : Int) := by rw [w64_of] <;> omega
      have e2 : 0 < i → IntKind.i64.wrap ((i : Int) - 1) = ((i - 1 : Nat) : Int) := fun h => by rw [w64_of] <;> omega
      have ec : (!inB (p.groups.getD i 0) 0 9 || decide ((i : Int) > 0) && decide (p.groups.getD (IntKind.i64.wrap ((i : Int) - 1)).toNat 0 ≥ p.groups.getD i 0)) = !credGr p.groups i := by
        unfold credGr
        rcases Nat.eq_zero_or_pos i with rfl | hp
        · simp
        · rw [e2 hp, toNat_nat]
          have d1 : decide ((i : Int) > 0) = true := by simpa using hp
          have d2 : decide (i = 0) = false := by simp; omega
          have d3 : ∀ a b : Int, decide (a ≥ b) = !decide (a < b) := fun a b => by simp [← Int.not_le]
          rw [d1, d2, d3]
          cases inB (p.groups.getD i 0) 0 9 <;> simp
      rw [ec]
      refine ⟨by omega, fun h => ?_, fun h => by omega, fun h => ?_, fun h => ?_⟩
      · simp only [Bool.and_eq_true, decide_eq_true_eq] at h
        rw [e2 (by omega)]; omega
      · have : credOk p = false := by
          have : ¬ (List.range p.groups.length).all (credGr p.groups) = true := fun hall => by
            have := List.all_eq_true.1 hall i (List.mem_range.2 h1)
            simp [this] at h
          simp [credOk, this]
        rw [this]; exact Le.refl _
      · refine ⟨p.groups.length - (i + 1), by omega, i + 1, by omega, rfl, by rw [e1], fun j hj => ?_⟩
        rcases Nat.lt_or_ge j i with h' | h'
        · exact hP j h'
        · have : j = i := by omega
          subst this; simpa using h
    · have h1 : i = p.groups.length := by
        have : ¬ i < p.groups.length := by simpa using h1
        omega
      have : credOk p = (inB p.user 0 9 && inB p.real 0 9 && decide ((p.groups.length : Int) ≤ 3)) := by
        have : (List.range p.groups.length).all (credGr p.groups) = true := List.all_eq_true.2 fun j hj => hP j (by rw [h1]; exact List.mem_range.1 hj)
        simp [credOk, this]
      rw [this]; exact Le.refl _

end Go.Proofs.YtemoiphdjocaiaaGreat

namespace Go.Proofs.YtemoiphdjocaiaaGreat
open Go.Pv
set_option linter.unusedSimpArgs false
set_option maxRecDepth 100000
set_option maxHeartbeats 4000000

/-- A place of a list that is told by a wrapped number. -/
theorem w64_le {n : Int} (h : -9223372036854775808 ≤ n) : IntKind.i64.wrap n ≤ n := by
  have e : IntKind.i64.wrap n = if n % 18446744073709551616 ≥ 9223372036854775808 then n % 18446744073709551616 - 18446744073709551616 else n % 18446744073709551616 := by
    unfold IntKind.wrap
    simp only [show IntKind.i64.bits = 64 from rfl, show IntKind.i64.signed = true from rfl]
    simp
  rw [e]
  split <;> omega
def fsHas (f : Fs) (i : Int) : Bool := inB i 0 (IntKind.i64.wrap ((f.nodes.length : Int) - 1)) && !decide ((f.nodes.getD i.toNat default).kind = 0)
def spaceLive (m : Mem) (i : Int) : Bool := inB i 0 (IntKind.i64.wrap ((m.spaces.length : Int) - 1)) && (m.spaces.getD i.toNat default).live
theorem inB_bd {i : Int} {n : Nat} (h : inB i 0 (IntKind.i64.wrap ((n : Int) - 1)) = true) : 0 ≤ i ∧ i < (n : Int) := by
  simp only [inB, Bool.and_eq_true, decide_eq_true_eq] at h
  have := w64_le (n := (n : Int) - 1) (by omega)
  omega

def an176 : List PV → PV
  | [.agg cs, .int _ i] => .bool (fsHas (Fs.dec cs) i)
  | _ => .undef
theorem pc176 (f : Fs) (i : Int) : PC Tryz.prog 176 [.agg [.sl 9 (f.nodes.map Inode.enc)], .int .i64 i] (.bool (fsHas f i)) := by
  refine PC.of_vc mixed (phiOf [(26, an26)]) Tryz.func176 (by kernel_rfl) (rfl : Tryz.f176.body = some _) Tryz.ntmps176 (by kernel_rfl) rfl (by kernel_rfl) Tryz.results176 fun hwf => ?_
  simp only [pvB, ↓pvP, pvDom, simprocAttr, an26, pc26]
  trace_state; exact ⟨fun h => inB_bd h, Le.refl _⟩

def an125 : List PV → PV
  | [.agg cs, .int _ i] => .bool (fsHas (Fs.dec cs) i)
  | _ => .undef
theorem pc125 (f : Fs) (i : Int) : PC Tryz.prog 125 [.agg [.sl 9 (f.nodes.map Inode.enc)], .int .i64 i] (.bool (fsHas f i)) := by
  refine PC.of_vc mixed (phiOf [(35, an35)]) Tryz.func125 (by kernel_rfl) (rfl : Tryz.f125.body = some _) Tryz.ntmps125 (by kernel_rfl) rfl (by kernel_rfl) Tryz.results125 fun hwf => ?_
  simp only [pvB, ↓pvP, pvDom, simprocAttr, an35, pc35]
  trace_state; exact ⟨fun h => inB_bd h, Le.refl _⟩

def an150 : List PV → PV
  | [.agg cs, .int _ i] => .bool (spaceLive (Mem.dec cs) i)
  | _ => .undef
theorem pc150 (m : Mem) (i : Int) : PC Tryz.prog 150 [.agg [.sl 1 (m.ram.text.map encS), .sl 1 (m.ram.refs.map encI), .sl 1 (m.swap.text.map encS), .sl 1 (m.swap.refs.map encI), .sl 3 (m.spaces.map Space.enc), .int .i64 m.hand], .int .i64 i] (.bool (spaceLive m i)) := by
  refine PC.of_vc mixed (phiOf [(26, an26)]) Tryz.func150 (by kernel_rfl) (rfl : Tryz.f150.body = some _) Tryz.ntmps150 (by kernel_rfl) rfl (by kernel_rfl) Tryz.results150 fun hwf => ?_
  simp only [pvB, ↓pvP, pvDom, simprocAttr, an26, pc26]
  trace_state; exact ⟨fun h => inB_bd h, Le.refl _⟩

def an74 : List PV → PV
  | [.agg cs, .int _ i] => .bool (spaceLive (Mem.dec cs) i)
  | _ => .undef
theorem pc74 (m : Mem) (i : Int) : PC Tryz.prog 74 [.agg [.sl 1 (m.ram.text.map encS), .sl 1 (m.ram.refs.map encI), .sl 1 (m.swap.text.map encS), .sl 1 (m.swap.refs.map encI), .sl 3 (m.spaces.map Space.enc), .int .i64 m.hand], .int .i64 i] (.bool (spaceLive m i)) := by
  refine PC.of_vc mixed (phiOf [(35, an35)]) Tryz.func74 (by kernel_rfl) (rfl : Tryz.f74.body = some _) Tryz.ntmps74 (by kernel_rfl) rfl (by kernel_rfl) Tryz.results74 fun hwf => ?_
  simp only [pvB, ↓pvP, pvDom, simprocAttr, an35, pc35]
  trace_state; exact ⟨fun h => inB_bd h, Le.refl _⟩

end Go.Proofs.YtemoiphdjocaiaaGreat

namespace Go.Proofs.YtemoiphdjocaiaaGreat
open Go.Pv
set_option linter.unusedSimpArgs false
set_option maxRecDepth 100000
set_option maxHeartbeats 4000000

theorem eqPlace (d : Nat) (w : World) (a b a' b' : Int) : (Op.equalIn (d + 2) 81 (.agg #[.int .i64 a, .int .i64 b]) (.agg #[.int .i64 a', .int .i64 b'])).run Tryz.prog w = .ok ((a == a') && ((b == b') && true)) w := by
  refine eqF_struct Tryz.underlying81 (by kernel_rfl) ?_
  refine eqF_cons (by rfl) (part_int Tryz.underlying3 rfl) (part_int Tryz.underlying3 rfl) (eqF_int Tryz.underlying3 _ _) ?_
  exact eqF_cons (by rfl) (part_int Tryz.underlying3 rfl) (part_int Tryz.underlying3 rfl) (eqF_int Tryz.underlying3 _ _) eqF_nil
theorem eqOk81 (a b a' b' : Int) : EqOk Tryz.prog 81 [.int .i64 a, .int .i64 b] [.int .i64 a', .int .i64 b'] ((a == a') && (b == b')) := by
  refine ⟨by kernel_rfl, [.int .i64 a, .int .i64 b], [.int .i64 a', .int .i64 b'], rfl, rfl, fun w => ?_⟩
  have e : Op.equal 81 (Value.agg #[Value.int IntKind.i64 a, Value.int IntKind.i64 b]) (Value.agg #[Value.int IntKind.i64 a', Value.int IntKind.i64 b']) = Op.equalIn (9998 + 2) 81 (.agg #[.int .i64 a, .int .i64 b]) (.agg #[.int .i64 a', .int .i64 b']) := rfl
  rw [e]; simpa using eqPlace 9998 w a b a' b'

theorem eqOk197 (x0 y0 x1 y1 : Int) (x2 y2 x3 y3 : Bool) : EqOk Tryz.prog 197 [.int .i64 x0, .int .i64 x1, .bool x2, .bool x3] [.int .i64 y0, .int .i64 y1, .bool y2, .bool y3] (((x0 == y0) && ((x1 == y1) && ((x2 == y2) && (x3 == y3))))) := by
  refine ⟨by kernel_rfl, [.int .i64 x0, .int .i64 x1, .bool x2, .bool x3], [.int .i64 y0, .int .i64 y1, .bool y2, .bool y3], rfl, rfl, fun w => ?_⟩
  have h : (Op.equalIn (9997 + 3) 197 (.agg #[.int .i64 x0, .int .i64 x1, .bool x2, .bool x3]) (.agg #[.int .i64 y0, .int .i64 y1, .bool y2, .bool y3])).run Tryz.prog w = .ok (((x0 == y0) && ((x1 == y1) && ((x2 == y2) && ((x3 == y3) && true))))) w := by
    refine eqF_struct Tryz.underlying197 (by kernel_rfl) ?_
    refine eqF_cons (by rfl) (part_int Tryz.underlying3 rfl) (part_int Tryz.underlying3 rfl) (eqF_int Tryz.underlying3 _ _) ?_
    refine eqF_cons (by rfl) (part_int Tryz.underlying3 rfl) (part_int Tryz.underlying3 rfl) (eqF_int Tryz.underlying3 _ _) ?_
    refine eqF_cons (by rfl) (part_bool Tryz.underlying4 rfl) (part_bool Tryz.underlying4 rfl) (eqF_bool Tryz.underlying4 _ _) ?_
    refine eqF_cons (by rfl) (part_bool Tryz.underlying4 rfl) (part_bool Tryz.underlying4 rfl) (eqF_bool Tryz.underlying4 _ _) ?_
    exact eqF_nil
  have e : Op.equal 197 (Value.agg #[.int .i64 x0, .int .i64 x1, .bool x2, .bool x3]) (Value.agg #[.int .i64 y0, .int .i64 y1, .bool y2, .bool y3]) = Op.equalIn (9997 + 3) 197 (.agg #[.int .i64 x0, .int .i64 x1, .bool x2, .bool x3]) (.agg #[.int .i64 y0, .int .i64 y1, .bool y2, .bool y3]) := rfl
  have v : (((x0 == y0) && ((x1 == y1) && ((x2 == y2) && ((x3 == y3) && true))))) = (((x0 == y0) && ((x1 == y1) && ((x2 == y2) && (x3 == y3))))) := by simp [Bool.and_assoc]
  rw [← v]
  exact (congrArg (fun s => Sem.run Tryz.prog s w) e).trans h

theorem eqOk87 (x0 y0 x1 x2 y1 y2 x3 y3 x4 y4 : Int) (x5 y5 x6 y6 x7 y7 : Bool) : EqOk Tryz.prog 87 [.int .i64 x0, .int .i64 x1, .int .i64 x2, .int .i64 x3, .int .i64 x4, .bool x5, .bool x6, .bool x7] [.int .i64 y0, .int .i64 y1, .int .i64 y2, .int .i64 y3, .int .i64 y4, .bool y5, .bool y6, .bool y7] (((x0 == y0) && ((x1 == y1) && ((x2 == y2) && ((x3 == y3) && ((x4 == y4) && ((x5 == y5) && ((x6 == y6) && (x7 == y7))))))))) := by
  refine ⟨by kernel_rfl, [.int .i64 x0, .int .i64 x1, .int .i64 x2, .int .i64 x3, .int .i64 x4, .bool x5, .bool x6, .bool x7], [.int .i64 y0, .int .i64 y1, .int .i64 y2, .int .i64 y3, .int .i64 y4, .bool y5, .bool y6, .bool y7], rfl, rfl, fun w => ?_⟩
  have h : (Op.equalIn (9997 + 3) 87 (.agg #[.int .i64 x0, .int .i64 x1, .int .i64 x2, .int .i64 x3, .int .i64 x4, .bool x5, .bool x6, .bool x7]) (.agg #[.int .i64 y0, .int .i64 y1, .int .i64 y2, .int .i64 y3, .int .i64 y4, .bool y5, .bool y6, .bool y7])).run Tryz.prog w = .ok (((x0 == y0) && (((x1 == y1) && ((x2 == y2) && true)) && ((x3 == y3) && ((x4 == y4) && ((x5 == y5) && ((x6 == y6) && ((x7 == y7) && true)))))))) w := by
    refine eqF_struct Tryz.underlying87 (by kernel_rfl) ?_
    refine eqF_cons (by rfl) (part_int Tryz.underlying3 rfl) (part_int Tryz.underlying3 rfl) (eqF_int Tryz.underlying3 _ _) ?_
    refine eqF_cons (by rfl) (part_agg Tryz.underlying81 ty81 rfl) (part_agg Tryz.underlying81 ty81 rfl) (eqPlace _ w _ _ _ _) ?_
    refine eqF_cons (by rfl) (part_int Tryz.underlying3 rfl) (part_int Tryz.underlying3 rfl) (eqF_int Tryz.underlying3 _ _) ?_
    refine eqF_cons (by rfl) (part_int Tryz.underlying3 rfl) (part_int Tryz.underlying3 rfl) (eqF_int Tryz.underlying3 _ _) ?_
    refine eqF_cons (by rfl) (part_bool Tryz.underlying4 rfl) (part_bool Tryz.underlying4 rfl) (eqF_bool Tryz.underlying4 _ _) ?_
    refine eqF_cons (by rfl) (part_bool Tryz.underlying4 rfl) (part_bool Tryz.underlying4 rfl) (eqF_bool Tryz.underlying4 _ _) ?_
    refine eqF_cons (by rfl) (part_bool Tryz.underlying4 rfl) (part_bool Tryz.underlying4 rfl) (eqF_bool Tryz.underlying4 _ _) ?_
    exact eqF_nil
  have e : Op.equal 87 (Value.agg #[.int .i64 x0, .int .i64 x1, .int .i64 x2, .int .i64 x3, .int .i64 x4, .bool x5, .bool x6, .bool x7]) (Value.agg #[.int .i64 y0, .int .i64 y1, .int .i64 y2, .int .i64 y3, .int .i64 y4, .bool y5, .bool y6, .bool y7]) = Op.equalIn (9997 + 3) 87 (.agg #[.int .i64 x0, .int .i64 x1, .int .i64 x2, .int .i64 x3, .int .i64 x4, .bool x5, .bool x6, .bool x7]) (.agg #[.int .i64 y0, .int .i64 y1, .int .i64 y2, .int .i64 y3, .int .i64 y4, .bool y5, .bool y6, .bool y7]) := rfl
  have v : (((x0 == y0) && (((x1 == y1) && ((x2 == y2) && true)) && ((x3 == y3) && ((x4 == y4) && ((x5 == y5) && ((x6 == y6) && ((x7 == y7) && true)))))))) = (((x0 == y0) && ((x1 == y1) && ((x2 == y2) && ((x3 == y3) && ((x4 == y4) && ((x5 == y5) && ((x6 == y6) && (x7 == y7))))))))) := by simp [Bool.and_assoc]
  rw [← v]
  exact (congrArg (fun s => Sem.run Tryz.prog s w) e).trans h

end Go.Proofs.YtemoiphdjocaiaaGreat

namespace Go.Proofs.YtemoiphdjocaiaaGreat
open Go.Pv
set_option linter.unusedSimpArgs false
set_option maxRecDepth 100000
set_option maxHeartbeats 4000000

def placeZero (p : Spt) : Bool := (p.fs == 0) && (p.id == 0)
def procBare (p : Proc) : Bool := decide (p.who.user = 0) && decide (p.who.real = 0) && decide ((p.who.groups.length : Int) = 0) && decide ((p.fds.length : Int) = 0) && decide ((p.sigs.here.length : Int) = 0) && decide ((p.sigs.block.length : Int) = 0) && decide ((p.sigs.does.length : Int) = 0) && placeZero p.dir && decide (p.on = 0)
def placeOk (v : Vfs) (p : Spt) : Bool := inB p.fs 0 (IntKind.i64.wrap ((v.fss.length : Int) - 1)) && fsHas (v.fss.getD p.fs.toNat default) p.id
def placeHas (v : Vfs) (p : Spt) : Bool := inB p.fs 0 1 && fsHas (v.fss.getD p.fs.toNat default) p.id

def an72 : List PV → PV
  | [.agg cs] => .bool (procBare (Proc.dec cs))
  | _ => .undef
theorem pc72 (p : Proc) : PC Tryz.prog 72 [.agg [.int .i64 p.state, .int .i64 p.parent, .int .i64 p.code, .int .i64 p.who.user, .int .i64 p.who.real, .sl 1 (p.who.groups.map encI), .int .i64 p.space, .sl 1 (p.fds.map encI), .sl 1 (p.sigs.here.map encB), .sl 1 (p.sigs.block.map encB), .sl 1 (p.sigs.does.map encI), .int .i64 p.dir.fs, .int .i64 p.dir.id, .int .i64 p.on]] (.bool (procBare p)) := by
  refine PC.of_vc mixed (phiOf []) Tryz.func72 (by kernel_rfl) (rfl : Tryz.f72.body = some _) Tryz.ntmps72 (by kernel_rfl) rfl (by kernel_rfl) Tryz.results72 fun hwf => ?_
  simp only [pvB, ↓pvP, pvDom, simprocAttr, eqOk81]
  exact Le.refl _

def an148 : List PV → PV
  | [.agg cs] => .bool (procBare (Proc.dec cs))
  | _ => .undef
theorem pc148 (p : Proc) : PC Tryz.prog 148 [.agg [.int .i64 p.state, .int .i64 p.parent, .int .i64 p.code, .int .i64 p.who.user, .int .i64 p.who.real, .sl 1 (p.who.groups.map encI), .int .i64 p.space, .sl 1 (p.fds.map encI), .sl 1 (p.sigs.here.map encB), .sl 1 (p.sigs.block.map encB), .sl 1 (p.sigs.does.map encI), .int .i64 p.dir.fs, .int .i64 p.dir.id, .int .i64 p.on]] (.bool (procBare p)) := by
  refine PC.of_vc mixed (phiOf []) Tryz.func148 (by kernel_rfl) (rfl : Tryz.f148.body = some _) Tryz.ntmps148 (by kernel_rfl) rfl (by kernel_rfl) Tryz.results148 fun hwf => ?_
  simp only [pvB, ↓pvP, pvDom, simprocAttr, eqOk81]
  simp only [pvAll, pvStd, pvDom] at hwf
  have e1 : IntKind.i64.wrap ((p.sigs.here.length : Int) + p.sigs.block.length) = (p.sigs.here.length : Int) + p.sigs.block.length := by rw [w64_of] <;> omega
  have e2 : IntKind.i64.wrap ((p.sigs.here.length : Int) + p.sigs.block.length + p.sigs.does.length) = (p.sigs.here.length : Int) + p.sigs.block.length + p.sigs.does.length := by rw [w64_of] <;> omega
  rw [e1, e2, show decide ((p.sigs.here.length : Int) + p.sigs.block.length + p.sigs.does.length = 0) = (decide ((p.sigs.here.length : Int) = 0) && decide ((p.sigs.block.length : Int) = 0) && decide ((p.sigs.does.length : Int) = 0)) by rw [Bool.eq_iff_iff]; simp only [Bool.and_eq_true, decide_eq_true_eq]; omega]
  simp only [procBare, placeZero, Bool.and_assoc]
  exact Le.refl _

def an147 : List PV → PV
  | [.agg cs, .agg ds] => .bool (placeOk (Vfs.dec cs) (Spt.dec ds))
  | _ => .undef
theorem pc147 (v : Vfs) (p : Spt) : PC Tryz.prog 147 [.agg [.sl 1 (v.fss.map Fs.enc), .int .i64 v.mount], .agg [.int .i64 p.fs, .int .i64 p.id]] (.bool (placeOk v p)) := by
  refine PC.of_vc mixed (phiOf [(176, an176), (26, an26)]) Tryz.func147 (by kernel_rfl) (rfl : Tryz.f147.body = some _) Tryz.ntmps147 (by kernel_rfl) rfl (by kernel_rfl) Tryz.results147 fun hwf => ?_
  simp only [pvB, ↓pvP, pvDom, simprocAttr, an176, pc176, an26, pc26]
  exact ⟨fun h => inB_bd h, Le.refl _⟩

def an76 : List PV → PV
  | [.agg cs, .agg ds] => .bool (placeHas (Vfs.dec cs) (Spt.dec ds))
  | _ => .undef
theorem pc76 (v : Vfs) (p : Spt) (hv : v.fss.length = 2) : PC Tryz.prog 76 [.agg [.sl 1 (v.fss.map Fs.enc), .int .i64 v.mount], .agg [.int .i64 p.fs, .int .i64 p.id]] (.bool (placeHas v p)) := by
  refine PC.of_vc mixed (phiOf [(125, an125), (35, an35)]) Tryz.func76 (by kernel_rfl) (rfl : Tryz.f76.body = some _) Tryz.ntmps76 (by kernel_rfl) rfl (by kernel_rfl) Tryz.results76 fun hwf => ?_
  simp only [pvB, ↓pvP, pvDom, simprocAttr, an125, pc125, an35, pc35]
  exact ⟨fun h => by simp only [inB, Bool.and_eq_true, decide_eq_true_eq] at h; omega, Le.refl _⟩

end Go.Proofs.YtemoiphdjocaiaaGreat

namespace Go.Proofs.YtemoiphdjocaiaaGreat
open Go.Pv
set_option linter.unusedSimpArgs false
set_option maxRecDepth 100000
set_option maxHeartbeats 4000000

theorem credGr_eq (g : List Int) (i : Nat) (hi : i ≤ 140737488355328) : (!inB (g.getD i 0) 0 9 || decide ((i : Int) > 0) && decide (g.getD (IntKind.i64.wrap ((i : Int) - 1)).toNat 0 ≥ g.getD i 0)) = !credGr g i := by
  unfold credGr
  rcases Nat.eq_zero_or_pos i with rfl | hp
  · simp
  · have e2 : IntKind.i64.wrap ((i : Int) - 1) = ((i - 1 : Nat) : Int) := by rw [w64_of] <;> omega
    rw [e2, toNat_nat]
    have d1 : decide ((i : Int) > 0) = true := by simpa using hp
    have d2 : decide (i = 0) = false := by simp; omega
    have d3 : ∀ a b : Int, decide (a ≥ b) = !decide (a < b) := fun a b => by simp [← Int.not_le]
    rw [d1, d2, d3]
    cases inB (g.getD i 0) 0 9 <;> simp
theorem credOk_bad {p : Cred} {i : Nat} (h1 : i < p.groups.length) (h : credGr p.groups i = false) : credOk p = false := by
  have : ¬ (List.range p.groups.length).all (credGr p.groups) = true := fun hall => by
    have := List.all_eq_true.1 hall i (List.mem_range.2 h1)
    simp [this] at h
  simp [credOk, this]
theorem credOk_end {p : Cred} (hP : ∀ j, j < p.groups.length → credGr p.groups j = true) : credOk p = (inB p.user 0 9 && inB p.real 0 9 && decide ((p.groups.length : Int) ≤ 3)) := by
  have : (List.range p.groups.length).all (credGr p.groups) = true := List.all_eq_true.2 fun j hj => hP j (List.mem_range.1 hj)
  simp [credOk, this]

theorem pc73 (p : Cred) : PC Tryz.prog 73 [.agg [.int .i64 p.user, .int .i64 p.real, .sl 1 (p.groups.map encI)]] (.bool (credOk p)) := by
  refine PC.of_vc mixed (phiOf [(35, an35)]) Tryz.func73 (by kernel_rfl) (rfl : Tryz.f73.body = some _) Tryz.ntmps73 (by kernel_rfl) rfl (by kernel_rfl) Tryz.results73 fun hwf => ?_
  simp only [pvB, ↓pvP, pvDom, simprocAttr, an35, pc35]
  simp only [pvAll, pvStd, pvDom] at hwf
  refine .inl ⟨[1, 6, 7, 8], fun _ => 1, fun k vs H => ∃ i : Nat, i ≤ p.groups.length ∧ k = p.groups.length - i ∧ vs = [.ptr 0 3 0 0, .sl 1 (p.groups.map encI), .int .i64 p.groups.length, .int .i64 i] ∧ H = [.rows 76 3 [[.int .i64 p.user, .int .i64 p.real, .sl 1 (p.groups.map encI)]]] ∧ ∀ j, j < i → credGr p.groups j = true, fun _ => Nat.zero_le _, ?_, ?_⟩
  · simp only [pvB, ↓pvP, pvDom, simprocAttr]
    exact ⟨_, 0, Nat.zero_le _, rfl, rfl, fun j hj => absurd hj (Nat.not_lt_zero j)⟩
  · rintro k vs H - ⟨i, hi, rfl, rfl, rfl, hP⟩
    simp only [pvB, ↓pvP, pvDom, simprocAttr, an35, pc35]
    refine ⟨fun h1 => ?_, fun h1 => ?_⟩
    · have h1 : i < p.groups.length := by simpa using h1
      have e1 : IntKind.i64.wrap ((i : Int) + 1) = ((i + 1 : Nat) : Int) := by rw [w64_of] <;> omega
      rw [credGr_eq p.groups i (by omega)]
      refine ⟨by omega, fun h => ?_, fun h => ?_, fun h => ?_⟩
      · simp only [Bool.and_eq_true, decide_eq_true_eq] at h
        rw [w64_of] <;> omega
      · rw [credOk_bad h1 (by simpa using h)]; exact Le.refl _
      · refine ⟨p.groups.length - (i + 1), by omega, i + 1, by omega, rfl, by rw [e1], fun j hj => ?_⟩
        rcases Nat.lt_or_ge j i with h' | h'
        · exact hP j h'
        · have : j = i := by omega
          subst this; simpa using h
    · have h1 : i = p.groups.length := by
        have : ¬ i < p.groups.length := by simpa using h1
        omega
      rw [credOk_end (h1 ▸ hP)]; exact Le.refl _

end Go.Proofs.YtemoiphdjocaiaaGreat

namespace Go.Proofs.YtemoiphdjocaiaaGreat
open Go.Pv
set_option linter.unusedSimpArgs false
set_option maxRecDepth 100000
set_option maxHeartbeats 4000000

theorem all_bad {P : Nat → Bool} {n i : Nat} {r : Bool} (h1 : i < n) (h : P i = false) : Le (PV.bool false) (PV.bool ((List.range n).all P && r)) := by
  have : (List.range n).all P = false := by
    rw [← Bool.not_eq_true]
    intro hall
    have := List.all_eq_true.1 hall i (List.mem_range.2 h1)
    rw [h] at this; cases this
  rw [this]; exact Le.refl _
theorem all_end {P : Nat → Bool} {n : Nat} {r : Bool} (hP : ∀ j, j < n → P j = true) : Le (PV.bool r) (PV.bool ((List.range n).all P && r)) := by
  have : (List.range n).all P = true := List.all_eq_true.2 fun j hj => hP j (List.mem_range.1 hj)
  rw [this]; exact Le.refl _
theorem all_next {P : Nat → Bool} {i : Nat} (hP : ∀ j, j < i → P j = true) (h : P i = true) : ∀ j, j < i + 1 → P j = true := fun j hj => by
  rcases Nat.lt_or_ge j i with h' | h'
  · exact hP j h'
  · have : j = i := by omega
    subst this; exact h
theorem w_add {i : Nat} (h : i ≤ 140737488355328) : IntKind.i64.wrap ((i : Int) + 1) = ((i + 1 : Nat) : Int) := by rw [w64_of] <;> omega
theorem w_sub {i : Nat} (h : i ≤ 140737488355328) (hp : 0 < i) : IntKind.i64.wrap ((i : Int) - 1) = ((i - 1 : Nat) : Int) := by rw [w64_of] <;> omega
theorem dlt {a b : Nat} (h : decide ((a : Int) < (b : Int)) = true) : a < b := by simpa using h
theorem dge {a b : Nat} (h : decide ((a : Int) < (b : Int)) = false) (h2 : a ≤ b) : a = b := by
  have : ¬ a < b := by simpa using h
  omega
theorem pre_in {a : Bool} {i n : Nat} (h : (decide ((i : Int) > 0) && a) = true) (hi : i < n) (h2 : i ≤ 140737488355328) : 0 ≤ IntKind.i64.wrap ((i : Int) - 1) ∧ IntKind.i64.wrap ((i : Int) - 1) < (n : Int) := by
  simp only [Bool.and_eq_true, decide_eq_true_eq] at h
  rw [w_sub h2 (by omega)]; omega
/-- The place before. -/
def bef (i : Nat) : Nat := (IntKind.i64.wrap ((i : Int) - 1)).toNat
theorem bef_eq {i : Nat} (h : i ≤ 140737488355328) (hp : 0 < i) : bef i = i - 1 := by unfold bef; rw [w_sub h hp]; rfl
theorem in_of {n : Nat} (i : Nat) (h : i < n) : (0 : Int) ≤ (i : Int) ∧ (i : Int) < (n : Int) := by omega

def queueAt (q : Queue) (i : Nat) : Bool := !(!inB (q.tasks.getD i default).id 0 99 || !inB (q.tasks.getD i default).weight 1 6 || !inB (q.tasks.getD i default).cost 0 1000000 ||
  decide ((i : Int) > 0) && decide ((q.tasks.getD (bef i) default).id ≥ (q.tasks.getD i default).id) || (q.tasks.getD i default).ready && decide ((q.tasks.getD i default).cost < q.floor))
def queueOk (q : Queue) : Bool := (List.range q.tasks.length).all (queueAt q) && (decide ((q.tasks.length : Int) ≤ 6) && inB q.floor 0 1000000)
def queueAtI (q : Queue) (i : Nat) : Bool := !(!inB (q.tasks.getD i default).id 0 99 || !inB (q.tasks.getD i default).weight 1 6 || !inB (q.tasks.getD i default).cost 0 1000000 ||
  (q.tasks.getD i default).ready && decide ((q.tasks.getD i default).cost < q.floor) || decide ((i : Int) > 0) && decide ((q.tasks.getD (bef i) default).id ≥ (q.tasks.getD i default).id))
theorem queueAtI_eq (q : Queue) : queueAtI q = queueAt q := funext fun i => by
  unfold queueAtI queueAt
  congr 1
  rw [Bool.or_assoc (_ || _ || _), Bool.or_assoc (_ || _ || _), Bool.or_comm (_ && _)]

theorem pc100 (p : Queue) : PC Tryz.prog 100 [.agg [.sl 4 (p.tasks.map Task.enc), .int .i64 p.floor]] (.bool (queueOk p)) := by
  refine PC.of_vc mixed (phiOf [(26, an26)]) Tryz.func100 (by kernel_rfl) (rfl : Tryz.f100.body = some _) Tryz.ntmps100 (by kernel_rfl) rfl (by kernel_rfl) Tryz.results100 fun hwf => ?_
  simp only [pvB, ↓pvP, pvDom, simprocAttr, an26, pc26]
  simp only [pvAll, pvStd, pvDom] at hwf
  refine .inl ⟨[1, 3], fun _ => 1, fun k vs H => ∃ i : Nat, i ≤ p.tasks.length ∧ k = p.tasks.length - i ∧ vs = [.ptr 0 2 0 0, .int .i64 i] ∧ H = [.rows 55 2 [[.sl 4 (p.tasks.map Task.enc), .int .i64 p.floor]]] ∧ ∀ j, j < i → queueAt p j = true, fun _ => Nat.zero_le _, ?_, ?_⟩
  · simp only [pvB, ↓pvP, pvDom, simprocAttr]
    exact ⟨_, 0, Nat.zero_le _, rfl, rfl, fun j hj => absurd hj (Nat.not_lt_zero j)⟩
  · rintro k vs H - ⟨i, hi, rfl, rfl, rfl, hP⟩
    simp only [pvB, ↓pvP, pvDom, simprocAttr, an26, pc26]
    have hi2 : i ≤ 140737488355328 := Nat.le_trans hi (by omega)
    refine ⟨fun h1 => ⟨in_of i (dlt h1), fun h => pre_in h (dlt h1) hi2, fun h => all_bad (dlt h1) (congrArg not h), fun h => ⟨_, by have := dlt h1; omega, i + 1, dlt h1, rfl, by rw [w_add hi2], all_next hP (congrArg not h)⟩⟩, fun h1 => ?_⟩
    obtain rfl := dge h1 hi
    exact all_end hP

theorem pc69 (p : Queue) : PC Tryz.prog 69 [.agg [.sl 4 (p.tasks.map Task.enc), .int .i64 p.floor]] (.bool ((List.range p.tasks.length).all (queueAtI p) && (decide ((p.tasks.length : Int) ≤ 6) && inB p.floor 0 1000000))) := by
  refine PC.of_vc mixed (phiOf [(35, an35)]) Tryz.func69 (by kernel_rfl) (rfl : Tryz.f69.body = some _) Tryz.ntmps69 (by kernel_rfl) rfl (by kernel_rfl) Tryz.results69 fun hwf => ?_
  simp only [pvB, ↓pvP, pvDom, simprocAttr, an35, pc35]
  simp only [pvAll, pvStd, pvDom] at hwf
  refine .inl ⟨[1, 6, 7, 8], fun _ => 1, fun k vs H => ∃ i : Nat, i ≤ p.tasks.length ∧ k = p.tasks.length - i ∧ vs = [.ptr 0 2 0 0, .sl 4 (p.tasks.map Task.enc), .int .i64 p.tasks.length, .int .i64 i] ∧ H = [.rows 55 2 [[.sl 4 (p.tasks.map Task.enc), .int .i64 p.floor]]] ∧ ∀ j, j < i → queueAtI p j = true, fun _ => Nat.zero_le _, ?_, ?_⟩
  · simp only [pvB, ↓pvP, pvDom, simprocAttr]
    exact ⟨_, 0, Nat.zero_le _, rfl, rfl, fun j hj => absurd hj (Nat.not_lt_zero j)⟩
  · rintro k vs H - ⟨i, hi, rfl, rfl, rfl, hP⟩
    simp only [pvB, ↓pvP, pvDom, simprocAttr, an35, pc35]
    have hi2 : i ≤ 140737488355328 := Nat.le_trans hi (by omega)
    refine ⟨fun h1 => ⟨in_of i (dlt h1), fun h => pre_in h (dlt h1) hi2, fun h => all_bad (dlt h1) (congrArg not h), fun h => ⟨_, by have := dlt h1; omega, i + 1, dlt h1, rfl, by rw [w_add hi2], all_next hP (congrArg not h)⟩⟩, fun h1 => ?_⟩
    obtain rfl := dge h1 hi
    exact all_end hP

theorem pc69' (p : Queue) : PC Tryz.prog 69 [.agg [.sl 4 (p.tasks.map Task.enc), .int .i64 p.floor]] (.bool (queueOk p)) := by
  have := pc69 p
  rwa [queueAtI_eq] at this
end Go.Proofs.YtemoiphdjocaiaaGreat
