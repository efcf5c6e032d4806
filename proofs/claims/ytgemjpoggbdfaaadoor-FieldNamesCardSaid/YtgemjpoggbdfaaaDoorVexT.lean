/- The table of types of this seat's program, each row read off the program by the kernel. (Written by vextys.py.) -/
import Derived.Test.YtgemjpoggbdfaaaDoorVexN
import Derived.Test.YtgemjpoggbdfaaaDoorProg
namespace Go.Proofs.YtgemjpoggbdfaaaDoor.Vex
open Go Go.RowKit

def tys : Ty := [
  (1, ⟨(TypeDesc.func #[] #[] false), .nilFunc, 1, 8, []⟩),
  (2, ⟨(TypeDesc.int IntKind.i64), .int .i64 0, 1, 8, []⟩),
  (3, ⟨(TypeDesc.int IntKind.i64), .int .i64 0, 1, 8, []⟩),
  (4, ⟨TypeDesc.bool, .bool false, 1, 1, []⟩),
  (5, ⟨(TypeDesc.int IntKind.u8), .int .u8 0, 1, 1, []⟩),
  (6, ⟨(TypeDesc.int IntKind.u8), .int .u8 0, 1, 1, []⟩),
  (7, ⟨(TypeDesc.struct #[{ name := "x", type := 2, offset := 0, embedded := false, tag := "", pkgPath := "runtime", byteOffset := 0 }, { name := "y", type := 3, offset := 1, embedded := false, tag := "", pkgPath := "runtime", byteOffset := 8 }, { name := "signed", type := 4, offset := 2, embedded := false, tag := "", pkgPath := "runtime", byteOffset := 16 }, { name := "code", type := 6, offset := 3, embedded := false, tag := "", pkgPath := "runtime", byteOffset := 17 }]), .agg ⟨[.int .i64 0, .int .i64 0, .bool false, .int .u8 0]⟩, 4, 24, [(0, 1), (1, 1), (2, 1), (3, 1)]⟩),
  (8, ⟨(TypeDesc.struct #[{ name := "x", type := 2, offset := 0, embedded := false, tag := "", pkgPath := "runtime", byteOffset := 0 }, { name := "y", type := 3, offset := 1, embedded := false, tag := "", pkgPath := "runtime", byteOffset := 8 }, { name := "signed", type := 4, offset := 2, embedded := false, tag := "", pkgPath := "runtime", byteOffset := 16 }, { name := "code", type := 6, offset := 3, embedded := false, tag := "", pkgPath := "runtime", byteOffset := 17 }]), .agg ⟨[.int .i64 0, .int .i64 0, .bool false, .int .u8 0]⟩, 4, 24, [(0, 1), (1, 1), (2, 1), (3, 1)]⟩),
  (9, ⟨TypeDesc.string, str [], 1, 16, []⟩),
  (10, ⟨TypeDesc.string, str [], 1, 16, []⟩),
  (11, ⟨TypeDesc.string, str [], 1, 16, []⟩),
  (12, ⟨(TypeDesc.int IntKind.u64), .int .u64 0, 1, 8, []⟩),
  (13, ⟨(TypeDesc.struct #[{ name := "msg", type := 9, offset := 0, embedded := false, tag := "", pkgPath := "runtime", byteOffset := 0 }, { name := "addr", type := 12, offset := 1, embedded := false, tag := "", pkgPath := "runtime", byteOffset := 16 }]), .agg ⟨[str [], .int .u64 0]⟩, 2, 24, [(0, 1), (1, 1)]⟩),
  (14, ⟨(TypeDesc.struct #[{ name := "msg", type := 9, offset := 0, embedded := false, tag := "", pkgPath := "runtime", byteOffset := 0 }, { name := "addr", type := 12, offset := 1, embedded := false, tag := "", pkgPath := "runtime", byteOffset := 16 }]), .agg ⟨[str [], .int .u64 0]⟩, 2, 24, [(0, 1), (1, 1)]⟩),
  (15, ⟨(TypeDesc.pointer 108), .pointer none, 1, 8, []⟩),
  (16, ⟨(TypeDesc.pointer 111), .pointer none, 1, 8, []⟩),
  (17, ⟨(TypeDesc.pointer 120), .pointer none, 1, 8, []⟩),
  (18, ⟨(TypeDesc.struct #[{ name := "typ", type := 17, offset := 0, embedded := false, tag := "", pkgPath := "internal/runtime/maps", byteOffset := 0 }]), .agg ⟨[.pointer none]⟩, 1, 8, [(0, 1)]⟩),
  (19, ⟨(TypeDesc.struct #[{ name := "typ", type := 17, offset := 0, embedded := false, tag := "", pkgPath := "internal/runtime/maps", byteOffset := 0 }]), .agg ⟨[.pointer none]⟩, 1, 8, [(0, 1)]⟩),
  (20, ⟨(TypeDesc.interface #[]), .nilIface, 1, 16, []⟩),
  (21, ⟨(TypeDesc.int IntKind.i32), .int .i32 0, 1, 4, []⟩),
  (22, ⟨(TypeDesc.func #[9, 9] #[4] false), .nilFunc, 1, 8, []⟩),
  (23, ⟨(TypeDesc.int IntKind.i64), .int .i64 0, 1, 8, []⟩),
  (25, ⟨(TypeDesc.func #[9, 5] #[9, 23] false), .nilFunc, 1, 8, []⟩),
  (27, ⟨(TypeDesc.func #[9] #[9, 4] false), .nilFunc, 1, 8, []⟩),
  (28, ⟨(TypeDesc.func #[] #[4] false), .nilFunc, 1, 8, []⟩),
  (30, ⟨(TypeDesc.func #[9, 5] #[9, 3] false), .nilFunc, 1, 8, []⟩),
  (31, ⟨(TypeDesc.func #[9] #[23] false), .nilFunc, 1, 8, []⟩),
  (32, ⟨(TypeDesc.func #[9] #[3] false), .nilFunc, 1, 8, []⟩),
  (33, ⟨(TypeDesc.func #[9, 5, 9, 9] #[4] false), .nilFunc, 1, 8, []⟩),
  (34, ⟨(TypeDesc.func #[9, 5, 5] #[4] false), .nilFunc, 1, 8, []⟩),
  (35, ⟨(TypeDesc.func #[9, 9, 9] #[4] false), .nilFunc, 1, 8, []⟩),
  (36, ⟨(TypeDesc.struct #[{ name := "Name", type := 9, offset := 0, embedded := false, tag := "", pkgPath := "", byteOffset := 0 }, { name := "Value", type := 9, offset := 1, embedded := false, tag := "", pkgPath := "", byteOffset := 16 }]), .agg ⟨[str [], str []]⟩, 2, 32, [(0, 1), (1, 1)]⟩),
  (37, ⟨(TypeDesc.struct #[{ name := "Name", type := 9, offset := 0, embedded := false, tag := "", pkgPath := "", byteOffset := 0 }, { name := "Value", type := 9, offset := 1, embedded := false, tag := "", pkgPath := "", byteOffset := 16 }]), .agg ⟨[str [], str []]⟩, 2, 32, [(0, 1), (1, 1)]⟩),
  (38, ⟨(TypeDesc.func #[39] #[4] false), .nilFunc, 1, 8, []⟩),
  (39, ⟨(TypeDesc.slice 37), .slice none 0 0, 1, 24, []⟩),
  (41, ⟨(TypeDesc.func #[9] #[37, 23] false), .nilFunc, 1, 8, []⟩),
  (43, ⟨(TypeDesc.func #[9] #[37, 3] false), .nilFunc, 1, 8, []⟩),
  (44, ⟨(TypeDesc.func #[37] #[9, 23] false), .nilFunc, 1, 8, []⟩),
  (45, ⟨(TypeDesc.func #[37] #[9, 3] false), .nilFunc, 1, 8, []⟩),
  (46, ⟨(TypeDesc.func #[9] #[4] false), .nilFunc, 1, 8, []⟩),
  (47, ⟨(TypeDesc.func #[9] #[9] false), .nilFunc, 1, 8, []⟩),
  (48, ⟨(TypeDesc.func #[37] #[23] false), .nilFunc, 1, 8, []⟩),
  (49, ⟨(TypeDesc.func #[37] #[3] false), .nilFunc, 1, 8, []⟩),
  (50, ⟨(TypeDesc.func #[9, 37] #[4] false), .nilFunc, 1, 8, []⟩),
  (51, ⟨(TypeDesc.func #[37, 9, 5] #[4] false), .nilFunc, 1, 8, []⟩),
  (52, ⟨(TypeDesc.func #[53, 53] #[4] false), .nilFunc, 1, 8, []⟩),
  (53, ⟨(TypeDesc.slice 9), .slice none 0 0, 1, 24, []⟩),
  (54, ⟨(TypeDesc.func #[39, 9] #[53] false), .nilFunc, 1, 8, []⟩),
  (55, ⟨(TypeDesc.func #[9, 39] #[4] false), .nilFunc, 1, 8, []⟩),
  (56, ⟨(TypeDesc.func #[9] #[53] false), .nilFunc, 1, 8, []⟩),
  (57, ⟨(TypeDesc.func #[9, 9] #[9] false), .nilFunc, 1, 8, []⟩),
  (59, ⟨(TypeDesc.func #[9] #[53, 4] false), .nilFunc, 1, 8, []⟩),
  (60, ⟨(TypeDesc.func #[5] #[9, 23] false), .nilFunc, 1, 8, []⟩),
  (61, ⟨(TypeDesc.pointer 63), .pointer none, 1, 8, []⟩),
  (62, ⟨(TypeDesc.struct #[{ name := "s", type := 9, offset := 0, embedded := false, tag := "", pkgPath := "bellows/tag", byteOffset := 0 }]), .agg ⟨[str []]⟩, 1, 16, [(0, 1)]⟩),
  (63, ⟨(TypeDesc.struct #[{ name := "s", type := 9, offset := 0, embedded := false, tag := "", pkgPath := "bellows/tag", byteOffset := 0 }]), .agg ⟨[str []]⟩, 1, 16, [(0, 1)]⟩),
  (64, ⟨(TypeDesc.func #[] #[9, 4] false), .nilFunc, 1, 8, []⟩),
  (65, ⟨(TypeDesc.func #[9, 5] #[9] false), .nilFunc, 1, 8, []⟩),
  (66, ⟨(TypeDesc.func #[9, 3] #[3] false), .nilFunc, 1, 8, []⟩),
  (67, ⟨(TypeDesc.func #[9, 68] #[4] false), .nilFunc, 1, 8, []⟩),
  (68, ⟨(TypeDesc.func #[21] #[4] false), .nilFunc, 1, 8, []⟩),
  (70, ⟨(TypeDesc.func #[9, 9] #[9, 9, 4] false), .nilFunc, 1, 8, []⟩),
  (71, ⟨(TypeDesc.func #[37] #[4] false), .nilFunc, 1, 8, []⟩),
  (72, ⟨TypeDesc.string, str [], 1, 16, []⟩),
  (73, ⟨(TypeDesc.func #[74] #[4] false), .nilFunc, 1, 8, []⟩),
  (74, ⟨(TypeDesc.func #[5] #[4] false), .nilFunc, 1, 8, []⟩),
  (75, ⟨(TypeDesc.func #[9, 5] #[3] false), .nilFunc, 1, 8, []⟩),
  (76, ⟨(TypeDesc.slice 5), .slice none 0 0, 1, 24, []⟩),
  (77, ⟨(TypeDesc.func #[46] #[] false), .nilFunc, 1, 8, []⟩),
  (78, ⟨(TypeDesc.func #[46] #[] false), .nilFunc, 1, 8, []⟩),
  (79, ⟨(TypeDesc.func #[9, 9] #[78] false), .nilFunc, 1, 8, []⟩),
  (83, ⟨(TypeDesc.func #[9] #[81, 4] false), .nilFunc, 1, 8, []⟩),
  (84, ⟨(TypeDesc.func #[9, 85] #[9] false), .nilFunc, 1, 8, []⟩),
  (85, ⟨(TypeDesc.pointer 81), .pointer none, 1, 8, []⟩),
  (86, ⟨(TypeDesc.func #[] #[53] false), .nilFunc, 1, 8, []⟩),
  (87, ⟨(TypeDesc.func #[5] #[9] false), .nilFunc, 1, 8, []⟩),
  (88, ⟨(TypeDesc.func #[9, 68] #[3] false), .nilFunc, 1, 8, []⟩),
  (89, ⟨(TypeDesc.func #[9, 9, 3] #[78] false), .nilFunc, 1, 8, []⟩),
  (91, ⟨(TypeDesc.func #[9] #[21, 3] false), .nilFunc, 1, 8, []⟩),
  (92, ⟨(TypeDesc.func #[9, 21] #[4] false), .nilFunc, 1, 8, []⟩),
  (93, ⟨(TypeDesc.func #[9, 9] #[9, 4] false), .nilFunc, 1, 8, []⟩),
  (94, ⟨(TypeDesc.func #[9, 68, 4] #[3] false), .nilFunc, 1, 8, []⟩),
  (95, ⟨(TypeDesc.func #[9, 9] #[3] false), .nilFunc, 1, 8, []⟩),
  (96, ⟨(TypeDesc.func #[9, 21] #[3] false), .nilFunc, 1, 8, []⟩),
  (97, ⟨(TypeDesc.func #[3] #[3] false), .nilFunc, 1, 8, []⟩),
  (98, ⟨(TypeDesc.int IntKind.u64), .int .u64 0, 1, 8, []⟩),
  (100, ⟨(TypeDesc.struct #[{ name := "lo", type := 5, offset := 0, embedded := false, tag := "", pkgPath := "unicode/utf8", byteOffset := 0 }, { name := "hi", type := 5, offset := 1, embedded := false, tag := "", pkgPath := "unicode/utf8", byteOffset := 1 }]), .agg ⟨[.int .u8 0, .int .u8 0]⟩, 2, 2, [(0, 1), (1, 1)]⟩),
  (101, ⟨(TypeDesc.struct #[{ name := "lo", type := 5, offset := 0, embedded := false, tag := "", pkgPath := "unicode/utf8", byteOffset := 0 }, { name := "hi", type := 5, offset := 1, embedded := false, tag := "", pkgPath := "unicode/utf8", byteOffset := 1 }]), .agg ⟨[.int .u8 0, .int .u8 0]⟩, 2, 2, [(0, 1), (1, 1)]⟩),
  (102, ⟨(TypeDesc.array 16 101), .agg ⟨[.int .u8 0, .int .u8 0, .int .u8 0, .int .u8 0, .int .u8 0, .int .u8 0, .int .u8 0, .int .u8 0, .int .u8 0, .int .u8 0, .int .u8 0, .int .u8 0, .int .u8 0, .int .u8 0, .int .u8 0, .int .u8 0, .int .u8 0, .int .u8 0, .int .u8 0, .int .u8 0, .int .u8 0, .int .u8 0, .int .u8 0, .int .u8 0, .int .u8 0, .int .u8 0, .int .u8 0, .int .u8 0, .int .u8 0, .int .u8 0, .int .u8 0, .int .u8 0]⟩, 32, 32, []⟩),
  (103, ⟨(TypeDesc.int IntKind.u32), .int .u32 0, 1, 4, []⟩),
  (105, ⟨(TypeDesc.func #[9] #[103, 103] false), .nilFunc, 1, 8, []⟩),
  (106, ⟨(TypeDesc.func #[] #[9] false), .nilFunc, 1, 8, []⟩),
  (107, ⟨(TypeDesc.struct #[{ name := "_interface", type := 17, offset := 0, embedded := false, tag := "", pkgPath := "runtime", byteOffset := 0 }, { name := "concrete", type := 17, offset := 1, embedded := false, tag := "", pkgPath := "runtime", byteOffset := 8 }, { name := "asserted", type := 17, offset := 2, embedded := false, tag := "", pkgPath := "runtime", byteOffset := 16 }, { name := "missingMethod", type := 9, offset := 3, embedded := false, tag := "", pkgPath := "runtime", byteOffset := 24 }]), .agg ⟨[.pointer none, .pointer none, .pointer none, str []]⟩, 4, 40, [(0, 1), (1, 1), (2, 1), (3, 1)]⟩),
  (108, ⟨(TypeDesc.struct #[{ name := "_interface", type := 17, offset := 0, embedded := false, tag := "", pkgPath := "runtime", byteOffset := 0 }, { name := "concrete", type := 17, offset := 1, embedded := false, tag := "", pkgPath := "runtime", byteOffset := 8 }, { name := "asserted", type := 17, offset := 2, embedded := false, tag := "", pkgPath := "runtime", byteOffset := 16 }, { name := "missingMethod", type := 9, offset := 3, embedded := false, tag := "", pkgPath := "runtime", byteOffset := 24 }]), .agg ⟨[.pointer none, .pointer none, .pointer none, str []]⟩, 4, 40, [(0, 1), (1, 1), (2, 1), (3, 1)]⟩),
  (109, ⟨(TypeDesc.array 0 16), .agg ⟨[]⟩, 0, 0, []⟩),
  (110, ⟨(TypeDesc.struct #[{ name := "_", type := 109, offset := 0, embedded := false, tag := "", pkgPath := "runtime", byteOffset := 0 }]), .agg ⟨[]⟩, 0, 0, [(0, 0)]⟩),
  (111, ⟨(TypeDesc.struct #[{ name := "_", type := 109, offset := 0, embedded := false, tag := "", pkgPath := "runtime", byteOffset := 0 }]), .agg ⟨[]⟩, 0, 0, [(0, 0)]⟩),
  (112, ⟨(TypeDesc.func #[] #[3] false), .nilFunc, 1, 8, []⟩),
  (113, ⟨(TypeDesc.int IntKind.u8), .int .u8 0, 1, 1, []⟩),
  (114, ⟨(TypeDesc.int IntKind.u8), .int .u8 0, 1, 1, []⟩),
  (115, ⟨(TypeDesc.func #[121, 121] #[4] false), .nilFunc, 1, 8, []⟩),
  (116, ⟨(TypeDesc.pointer 5), .pointer none, 1, 8, []⟩),
  (117, ⟨(TypeDesc.int IntKind.i32), .int .i32 0, 1, 4, []⟩),
  (118, ⟨(TypeDesc.int IntKind.i32), .int .i32 0, 1, 4, []⟩),
  (119, ⟨(TypeDesc.struct #[{ name := "Size_", type := 12, offset := 0, embedded := false, tag := "", pkgPath := "", byteOffset := 0 }, { name := "PtrBytes", type := 12, offset := 1, embedded := false, tag := "", pkgPath := "", byteOffset := 8 }, { name := "Hash", type := 103, offset := 2, embedded := false, tag := "", pkgPath := "", byteOffset := 16 }, { name := "TFlag", type := 113, offset := 3, embedded := false, tag := "", pkgPath := "", byteOffset := 20 }, { name := "Align_", type := 5, offset := 4, embedded := false, tag := "", pkgPath := "", byteOffset := 21 }, { name := "FieldAlign_", type := 5, offset := 5, embedded := false, tag := "", pkgPath := "", byteOffset := 22 }, { name := "Kind_", type := 114, offset := 6, embedded := false, tag := "", pkgPath := "", byteOffset := 23 }, { name := "Equal", type := 115, offset := 7, embedded := false, tag := "", pkgPath := "", byteOffset := 24 }, { name := "GCData", type := 116, offset := 8, embedded := false, tag := "", pkgPath := "", byteOffset := 32 }, { name := "Str", type := 117, offset := 9, embedded := false, tag := "", pkgPath := "", byteOffset := 40 }, { name := "PtrToThis", type := 118, offset := 10, embedded := false, tag := "", pkgPath := "", byteOffset := 44 }]), .agg ⟨[.int .u64 0, .int .u64 0, .int .u32 0, .int .u8 0, .int .u8 0, .int .u8 0, .int .u8 0, .nilFunc, .pointer none, .int .i32 0, .int .i32 0]⟩, 11, 48, [(0, 1), (1, 1), (2, 1), (3, 1), (4, 1), (5, 1), (6, 1), (7, 1), (8, 1), (9, 1), (10, 1)]⟩),
  (120, ⟨(TypeDesc.struct #[{ name := "Size_", type := 12, offset := 0, embedded := false, tag := "", pkgPath := "", byteOffset := 0 }, { name := "PtrBytes", type := 12, offset := 1, embedded := false, tag := "", pkgPath := "", byteOffset := 8 }, { name := "Hash", type := 103, offset := 2, embedded := false, tag := "", pkgPath := "", byteOffset := 16 }, { name := "TFlag", type := 113, offset := 3, embedded := false, tag := "", pkgPath := "", byteOffset := 20 }, { name := "Align_", type := 5, offset := 4, embedded := false, tag := "", pkgPath := "", byteOffset := 21 }, { name := "FieldAlign_", type := 5, offset := 5, embedded := false, tag := "", pkgPath := "", byteOffset := 22 }, { name := "Kind_", type := 114, offset := 6, embedded := false, tag := "", pkgPath := "", byteOffset := 23 }, { name := "Equal", type := 115, offset := 7, embedded := false, tag := "", pkgPath := "", byteOffset := 24 }, { name := "GCData", type := 116, offset := 8, embedded := false, tag := "", pkgPath := "", byteOffset := 32 }, { name := "Str", type := 117, offset := 9, embedded := false, tag := "", pkgPath := "", byteOffset := 40 }, { name := "PtrToThis", type := 118, offset := 10, embedded := false, tag := "", pkgPath := "", byteOffset := 44 }]), .agg ⟨[.int .u64 0, .int .u64 0, .int .u32 0, .int .u8 0, .int .u8 0, .int .u8 0, .int .u8 0, .nilFunc, .pointer none, .int .i32 0, .int .i32 0]⟩, 11, 48, [(0, 1), (1, 1), (2, 1), (3, 1), (4, 1), (5, 1), (6, 1), (7, 1), (8, 1), (9, 1), (10, 1)]⟩),
  (121, ⟨TypeDesc.unsafePointer, .pointer none, 1, 8, []⟩)]
set_option maxRecDepth 100000 in
theorem tys_ok : TOk Tryd.prog tys :=
  TOk.cons ⟨Tryd.underlying1, by kernel_rfl, trivial⟩
  (TOk.cons ⟨Tryd.underlying2, by kernel_rfl, trivial⟩
  (TOk.cons ⟨Tryd.underlying3, by kernel_rfl, trivial⟩
  (TOk.cons ⟨Tryd.underlying4, by kernel_rfl, trivial⟩
  (TOk.cons ⟨Tryd.underlying5, by kernel_rfl, trivial⟩
  (TOk.cons ⟨Tryd.underlying6, by kernel_rfl, trivial⟩
  (TOk.cons ⟨Tryd.underlying7, by kernel_rfl, by show (_ : List (Nat × Option Nat)) = _; kernel_rfl⟩
  (TOk.cons ⟨Tryd.underlying8, by kernel_rfl, by show (_ : List (Nat × Option Nat)) = _; kernel_rfl⟩
  (TOk.cons ⟨Tryd.underlying9, by kernel_rfl, trivial⟩
  (TOk.cons ⟨Tryd.underlying10, by kernel_rfl, trivial⟩
  (TOk.cons ⟨Tryd.underlying11, by kernel_rfl, trivial⟩
  (TOk.cons ⟨Tryd.underlying12, by kernel_rfl, trivial⟩
  (TOk.cons ⟨Tryd.underlying13, by kernel_rfl, by show (_ : List (Nat × Option Nat)) = _; kernel_rfl⟩
  (TOk.cons ⟨Tryd.underlying14, by kernel_rfl, by show (_ : List (Nat × Option Nat)) = _; kernel_rfl⟩
  (TOk.cons ⟨Tryd.underlying15, by kernel_rfl, trivial⟩
  (TOk.cons ⟨Tryd.underlying16, by kernel_rfl, trivial⟩
  (TOk.cons ⟨Tryd.underlying17, by kernel_rfl, trivial⟩
  (TOk.cons ⟨Tryd.underlying18, by kernel_rfl, by show (_ : List (Nat × Option Nat)) = _; kernel_rfl⟩
  (TOk.cons ⟨Tryd.underlying19, by kernel_rfl, by show (_ : List (Nat × Option Nat)) = _; kernel_rfl⟩
  (TOk.cons ⟨Tryd.underlying20, by kernel_rfl, trivial⟩
  (TOk.cons ⟨Tryd.underlying21, by kernel_rfl, trivial⟩
  (TOk.cons ⟨Tryd.underlying22, by kernel_rfl, trivial⟩
  (TOk.cons ⟨Tryd.underlying23, by kernel_rfl, trivial⟩
  (TOk.cons ⟨Tryd.underlying25, by kernel_rfl, trivial⟩
  (TOk.cons ⟨Tryd.underlying27, by kernel_rfl, trivial⟩
  (TOk.cons ⟨Tryd.underlying28, by kernel_rfl, trivial⟩
  (TOk.cons ⟨Tryd.underlying30, by kernel_rfl, trivial⟩
  (TOk.cons ⟨Tryd.underlying31, by kernel_rfl, trivial⟩
  (TOk.cons ⟨Tryd.underlying32, by kernel_rfl, trivial⟩
  (TOk.cons ⟨Tryd.underlying33, by kernel_rfl, trivial⟩
  (TOk.cons ⟨Tryd.underlying34, by kernel_rfl, trivial⟩
  (TOk.cons ⟨Tryd.underlying35, by kernel_rfl, trivial⟩
  (TOk.cons ⟨Tryd.underlying36, by kernel_rfl, by show (_ : List (Nat × Option Nat)) = _; kernel_rfl⟩
  (TOk.cons ⟨Tryd.underlying37, by kernel_rfl, by show (_ : List (Nat × Option Nat)) = _; kernel_rfl⟩
  (TOk.cons ⟨Tryd.underlying38, by kernel_rfl, trivial⟩
  (TOk.cons ⟨Tryd.underlying39, by kernel_rfl, trivial⟩
  (TOk.cons ⟨Tryd.underlying41, by kernel_rfl, trivial⟩
  (TOk.cons ⟨Tryd.underlying43, by kernel_rfl, trivial⟩
  (TOk.cons ⟨Tryd.underlying44, by kernel_rfl, trivial⟩
  (TOk.cons ⟨Tryd.underlying45, by kernel_rfl, trivial⟩
  (TOk.cons ⟨Tryd.underlying46, by kernel_rfl, trivial⟩
  (TOk.cons ⟨Tryd.underlying47, by kernel_rfl, trivial⟩
  (TOk.cons ⟨Tryd.underlying48, by kernel_rfl, trivial⟩
  (TOk.cons ⟨Tryd.underlying49, by kernel_rfl, trivial⟩
  (TOk.cons ⟨Tryd.underlying50, by kernel_rfl, trivial⟩
  (TOk.cons ⟨Tryd.underlying51, by kernel_rfl, trivial⟩
  (TOk.cons ⟨Tryd.underlying52, by kernel_rfl, trivial⟩
  (TOk.cons ⟨Tryd.underlying53, by kernel_rfl, trivial⟩
  (TOk.cons ⟨Tryd.underlying54, by kernel_rfl, trivial⟩
  (TOk.cons ⟨Tryd.underlying55, by kernel_rfl, trivial⟩
  (TOk.cons ⟨Tryd.underlying56, by kernel_rfl, trivial⟩
  (TOk.cons ⟨Tryd.underlying57, by kernel_rfl, trivial⟩
  (TOk.cons ⟨Tryd.underlying59, by kernel_rfl, trivial⟩
  (TOk.cons ⟨Tryd.underlying60, by kernel_rfl, trivial⟩
  (TOk.cons ⟨Tryd.underlying61, by kernel_rfl, trivial⟩
  (TOk.cons ⟨Tryd.underlying62, by kernel_rfl, by show (_ : List (Nat × Option Nat)) = _; kernel_rfl⟩
  (TOk.cons ⟨Tryd.underlying63, by kernel_rfl, by show (_ : List (Nat × Option Nat)) = _; kernel_rfl⟩
  (TOk.cons ⟨Tryd.underlying64, by kernel_rfl, trivial⟩
  (TOk.cons ⟨Tryd.underlying65, by kernel_rfl, trivial⟩
  (TOk.cons ⟨Tryd.underlying66, by kernel_rfl, trivial⟩
  (TOk.cons ⟨Tryd.underlying67, by kernel_rfl, trivial⟩
  (TOk.cons ⟨Tryd.underlying68, by kernel_rfl, trivial⟩
  (TOk.cons ⟨Tryd.underlying70, by kernel_rfl, trivial⟩
  (TOk.cons ⟨Tryd.underlying71, by kernel_rfl, trivial⟩
  (TOk.cons ⟨Tryd.underlying72, by kernel_rfl, trivial⟩
  (TOk.cons ⟨Tryd.underlying73, by kernel_rfl, trivial⟩
  (TOk.cons ⟨Tryd.underlying74, by kernel_rfl, trivial⟩
  (TOk.cons ⟨Tryd.underlying75, by kernel_rfl, trivial⟩
  (TOk.cons ⟨Tryd.underlying76, by kernel_rfl, trivial⟩
  (TOk.cons ⟨Tryd.underlying77, by kernel_rfl, trivial⟩
  (TOk.cons ⟨Tryd.underlying78, by kernel_rfl, trivial⟩
  (TOk.cons ⟨Tryd.underlying79, by kernel_rfl, trivial⟩
  (TOk.cons ⟨Tryd.underlying83, by kernel_rfl, trivial⟩
  (TOk.cons ⟨Tryd.underlying84, by kernel_rfl, trivial⟩
  (TOk.cons ⟨Tryd.underlying85, by kernel_rfl, trivial⟩
  (TOk.cons ⟨Tryd.underlying86, by kernel_rfl, trivial⟩
  (TOk.cons ⟨Tryd.underlying87, by kernel_rfl, trivial⟩
  (TOk.cons ⟨Tryd.underlying88, by kernel_rfl, trivial⟩
  (TOk.cons ⟨Tryd.underlying89, by kernel_rfl, trivial⟩
  (TOk.cons ⟨Tryd.underlying91, by kernel_rfl, trivial⟩
  (TOk.cons ⟨Tryd.underlying92, by kernel_rfl, trivial⟩
  (TOk.cons ⟨Tryd.underlying93, by kernel_rfl, trivial⟩
  (TOk.cons ⟨Tryd.underlying94, by kernel_rfl, trivial⟩
  (TOk.cons ⟨Tryd.underlying95, by kernel_rfl, trivial⟩
  (TOk.cons ⟨Tryd.underlying96, by kernel_rfl, trivial⟩
  (TOk.cons ⟨Tryd.underlying97, by kernel_rfl, trivial⟩
  (TOk.cons ⟨Tryd.underlying98, by kernel_rfl, trivial⟩
  (TOk.cons ⟨Tryd.underlying100, by kernel_rfl, by show (_ : List (Nat × Option Nat)) = _; kernel_rfl⟩
  (TOk.cons ⟨Tryd.underlying101, by kernel_rfl, by show (_ : List (Nat × Option Nat)) = _; kernel_rfl⟩
  (TOk.cons ⟨Tryd.underlying102, by kernel_rfl, trivial⟩
  (TOk.cons ⟨Tryd.underlying103, by kernel_rfl, trivial⟩
  (TOk.cons ⟨Tryd.underlying105, by kernel_rfl, trivial⟩
  (TOk.cons ⟨Tryd.underlying106, by kernel_rfl, trivial⟩
  (TOk.cons ⟨Tryd.underlying107, by kernel_rfl, by show (_ : List (Nat × Option Nat)) = _; kernel_rfl⟩
  (TOk.cons ⟨Tryd.underlying108, by kernel_rfl, by show (_ : List (Nat × Option Nat)) = _; kernel_rfl⟩
  (TOk.cons ⟨Tryd.underlying109, by kernel_rfl, trivial⟩
  (TOk.cons ⟨Tryd.underlying110, by kernel_rfl, by show (_ : List (Nat × Option Nat)) = _; kernel_rfl⟩
  (TOk.cons ⟨Tryd.underlying111, by kernel_rfl, by show (_ : List (Nat × Option Nat)) = _; kernel_rfl⟩
  (TOk.cons ⟨Tryd.underlying112, by kernel_rfl, trivial⟩
  (TOk.cons ⟨Tryd.underlying113, by kernel_rfl, trivial⟩
  (TOk.cons ⟨Tryd.underlying114, by kernel_rfl, trivial⟩
  (TOk.cons ⟨Tryd.underlying115, by kernel_rfl, trivial⟩
  (TOk.cons ⟨Tryd.underlying116, by kernel_rfl, trivial⟩
  (TOk.cons ⟨Tryd.underlying117, by kernel_rfl, trivial⟩
  (TOk.cons ⟨Tryd.underlying118, by kernel_rfl, trivial⟩
  (TOk.cons ⟨Tryd.underlying119, by kernel_rfl, by show (_ : List (Nat × Option Nat)) = _; kernel_rfl⟩
  (TOk.cons ⟨Tryd.underlying120, by kernel_rfl, by show (_ : List (Nat × Option Nat)) = _; kernel_rfl⟩
  (TOk.cons ⟨Tryd.underlying121, by kernel_rfl, trivial⟩
  (TOk.nil _))))))))))))))))))))))))))))))))))))))))))))))))))))))))))))))))))))))))))))))))))))))))))))))))))))))))))))
theorem mixed : Tryd.prog.follows .mixedOrders = true := by kernel_rfl
end Go.Proofs.YtgemjpoggbdfaaaDoor.Vex
