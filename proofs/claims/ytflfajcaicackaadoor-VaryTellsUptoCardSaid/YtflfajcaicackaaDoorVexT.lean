/- The table of types of this seat's program, each row read off the program by the kernel. (Written by vextys.py.) -/
import Derived.Test.YtflfajcaicackaaDoorVexO
import Derived.Test.YtflfajcaicackaaDoorProg
namespace Go.Proofs.YtflfajcaicackaaDoor.Vex
open Go Go.RowKit

def tys : Ty := [
  (1, ⟨(TypeDesc.func #[] #[] false), .nilFunc, 1, 8, []⟩),
  (2, ⟨(TypeDesc.int IntKind.i64), .int .i64 0, 1, 8, []⟩),
  (3, ⟨(TypeDesc.int IntKind.i64), .int .i64 0, 1, 8, []⟩),
  (4, ⟨TypeDesc.bool, .bool false, 1, 1, []⟩),
  (5, ⟨(TypeDesc.int IntKind.u8), .int .u8 0, 1, 1, []⟩),
  (6, ⟨(TypeDesc.int IntKind.u8), .int .u8 0, 1, 1, []⟩),
  (7, ⟨(TypeDesc.struct #[{ name := "x", type := 2, offset := 0, embedded := false, tag := "", pkgPath := "runtime", byteOffset := 0 }, { name := "y", type := 3, offset := 1, embedded := false, tag := "", pkgPath := "runtime", byteOffset := 8 }, { name := "signed", type := 4, offset := 2, embedded := false, tag := "", pkgPath := "runtime", byteOffset := 16 }, { name := "code", type := 6, offset := 3, embedded := false, tag := "", pkgPath := "runtime", byteOffset := 17 }]), .agg ⟨[.int .i64 0, .int .i64 0, .bool false, .int .u8 0]⟩, 4, 24, [(0, 1), (1, 1), (2, 1), (3, 1)]⟩),
  (8, ⟨(TypeDesc.struct #[{ name := "x", type := 2, offset := 0, embedded := false, tag := "", pkgPath := "runtime", byteOffset := 0 }, { name := "y", type := 3, offset := 1, embedded := false, tag := "", pkgPath := "runtime", byteOffset := 8 }, { name := "signed", type := 4, offset := 2, embedded := false, tag := "", pkgPath := "runtime", byteOffset := 16 }, { name := "code", type := 6, offset := 3, embedded := false, tag := "", pkgPath := "runtime", byteOffset := 17 }]), .agg ⟨[.int .i64 0, .int .i64 0, .bool false, .int .u8 0]⟩, 4, 24, [(0, 1), (1, 1), (2, 1), (3, 1)]⟩),
  (9, ⟨TypeDesc.string, str [], 1, 16, []⟩),
  (10, ⟨TypeDesc.string, str [], 1, 16, []⟩),
  (11, ⟨TypeDesc.string, str [], 1, 16, []⟩),
  (12, ⟨(TypeDesc.int IntKind.u64), .int .u64 0, 1, 8, []⟩),
  (13, ⟨(TypeDesc.struct #[{ name := "msg", type := 9, offset := 0, embedded := false, tag := "", pkgPath := "runtime", byteOffset := 0 }, { name := "addr", type := 12, offset := 1, embedded := false, tag := "", pkgPath := "runtime", byteOffset := 16 }]), .agg ⟨[str [], .int .u64 0]⟩, 2, 24, [(0, 1), (1, 1)]⟩),
  (14, ⟨(TypeDesc.struct #[{ name := "msg", type := 9, offset := 0, embedded := false, tag := "", pkgPath := "runtime", byteOffset := 0 }, { name := "addr", type := 12, offset := 1, embedded := false, tag := "", pkgPath := "runtime", byteOffset := 16 }]), .agg ⟨[str [], .int .u64 0]⟩, 2, 24, [(0, 1), (1, 1)]⟩),
  (15, ⟨(TypeDesc.pointer 158), .pointer none, 1, 8, []⟩),
  (16, ⟨(TypeDesc.pointer 161), .pointer none, 1, 8, []⟩),
  (17, ⟨(TypeDesc.pointer 169), .pointer none, 1, 8, []⟩),
  (18, ⟨(TypeDesc.struct #[{ name := "typ", type := 17, offset := 0, embedded := false, tag := "", pkgPath := "internal/runtime/maps", byteOffset := 0 }]), .agg ⟨[.pointer none]⟩, 1, 8, [(0, 1)]⟩),
  (19, ⟨(TypeDesc.struct #[{ name := "typ", type := 17, offset := 0, embedded := false, tag := "", pkgPath := "internal/runtime/maps", byteOffset := 0 }]), .agg ⟨[.pointer none]⟩, 1, 8, [(0, 1)]⟩),
  (20, ⟨(TypeDesc.interface #[]), .nilIface, 1, 16, []⟩),
  (21, ⟨(TypeDesc.int IntKind.i32), .int .i32 0, 1, 4, []⟩),
  (22, ⟨(TypeDesc.slice 43), .slice none 0 0, 1, 24, []⟩),
  (23, ⟨(TypeDesc.slice 5), .slice none 0 0, 1, 24, []⟩),
  (24, ⟨(TypeDesc.struct #[{ name := "Method", type := 9, offset := 0, embedded := false, tag := "", pkgPath := "", byteOffset := 0 }, { name := "Path", type := 9, offset := 1, embedded := false, tag := "", pkgPath := "", byteOffset := 16 }, { name := "Query", type := 9, offset := 2, embedded := false, tag := "", pkgPath := "", byteOffset := 32 }, { name := "Minor", type := 3, offset := 3, embedded := false, tag := "", pkgPath := "", byteOffset := 48 }, { name := "Fields", type := 22, offset := 4, embedded := false, tag := "", pkgPath := "", byteOffset := 56 }, { name := "Body", type := 23, offset := 5, embedded := false, tag := "", pkgPath := "", byteOffset := 80 }]), .agg ⟨[str [], str [], str [], .int .i64 0, .slice none 0 0, .slice none 0 0]⟩, 6, 104, [(0, 1), (1, 1), (2, 1), (3, 1), (4, 1), (5, 1)]⟩),
  (25, ⟨(TypeDesc.struct #[{ name := "Method", type := 9, offset := 0, embedded := false, tag := "", pkgPath := "", byteOffset := 0 }, { name := "Path", type := 9, offset := 1, embedded := false, tag := "", pkgPath := "", byteOffset := 16 }, { name := "Query", type := 9, offset := 2, embedded := false, tag := "", pkgPath := "", byteOffset := 32 }, { name := "Minor", type := 3, offset := 3, embedded := false, tag := "", pkgPath := "", byteOffset := 48 }, { name := "Fields", type := 22, offset := 4, embedded := false, tag := "", pkgPath := "", byteOffset := 56 }, { name := "Body", type := 23, offset := 5, embedded := false, tag := "", pkgPath := "", byteOffset := 80 }]), .agg ⟨[str [], str [], str [], .int .i64 0, .slice none 0 0, .slice none 0 0]⟩, 6, 104, [(0, 1), (1, 1), (2, 1), (3, 1), (4, 1), (5, 1)]⟩),
  (26, ⟨(TypeDesc.int IntKind.i64), .int .i64 0, 1, 8, []⟩),
  (28, ⟨(TypeDesc.func #[25] #[9, 26] false), .nilFunc, 1, 8, []⟩),
  (30, ⟨(TypeDesc.func #[25] #[9, 3] false), .nilFunc, 1, 8, []⟩),
  (31, ⟨(TypeDesc.func #[9] #[9] false), .nilFunc, 1, 8, []⟩),
  (32, ⟨(TypeDesc.func #[25, 9] #[4] false), .nilFunc, 1, 8, []⟩),
  (33, ⟨(TypeDesc.slice 9), .slice none 0 0, 1, 24, []⟩),
  (34, ⟨(TypeDesc.func #[] #[4] false), .nilFunc, 1, 8, []⟩),
  (35, ⟨(TypeDesc.func #[33] #[4] false), .nilFunc, 1, 8, []⟩),
  (36, ⟨(TypeDesc.func #[33, 9] #[9, 26] false), .nilFunc, 1, 8, []⟩),
  (37, ⟨(TypeDesc.func #[9, 9] #[4] false), .nilFunc, 1, 8, []⟩),
  (38, ⟨(TypeDesc.func #[9] #[4] false), .nilFunc, 1, 8, []⟩),
  (39, ⟨(TypeDesc.func #[33, 9, 9] #[4] false), .nilFunc, 1, 8, []⟩),
  (41, ⟨(TypeDesc.func #[22, 9] #[22, 26] false), .nilFunc, 1, 8, []⟩),
  (42, ⟨(TypeDesc.struct #[{ name := "Name", type := 9, offset := 0, embedded := false, tag := "", pkgPath := "", byteOffset := 0 }, { name := "Value", type := 9, offset := 1, embedded := false, tag := "", pkgPath := "", byteOffset := 16 }]), .agg ⟨[str [], str []]⟩, 2, 32, [(0, 1), (1, 1)]⟩),
  (43, ⟨(TypeDesc.struct #[{ name := "Name", type := 9, offset := 0, embedded := false, tag := "", pkgPath := "", byteOffset := 0 }, { name := "Value", type := 9, offset := 1, embedded := false, tag := "", pkgPath := "", byteOffset := 16 }]), .agg ⟨[str [], str []]⟩, 2, 32, [(0, 1), (1, 1)]⟩),
  (44, ⟨(TypeDesc.func #[22, 22] #[4] false), .nilFunc, 1, 8, []⟩),
  (45, ⟨(TypeDesc.func #[22] #[4] false), .nilFunc, 1, 8, []⟩),
  (46, ⟨(TypeDesc.func #[33, 9] #[9, 3] false), .nilFunc, 1, 8, []⟩),
  (48, ⟨(TypeDesc.func #[22, 9] #[22, 3] false), .nilFunc, 1, 8, []⟩),
  (49, ⟨(TypeDesc.func #[33, 33] #[4] false), .nilFunc, 1, 8, []⟩),
  (50, ⟨(TypeDesc.func #[33, 9, 9, 22] #[4] false), .nilFunc, 1, 8, []⟩),
  (51, ⟨(TypeDesc.func #[22, 9] #[33] false), .nilFunc, 1, 8, []⟩),
  (52, ⟨(TypeDesc.func #[22, 9] #[4] false), .nilFunc, 1, 8, []⟩),
  (53, ⟨(TypeDesc.func #[9, 25] #[4] false), .nilFunc, 1, 8, []⟩),
  (55, ⟨(TypeDesc.func #[9] #[25, 3] false), .nilFunc, 1, 8, []⟩),
  (56, ⟨(TypeDesc.func #[25, 25] #[4] false), .nilFunc, 1, 8, []⟩),
  (58, ⟨(TypeDesc.func #[9] #[33, 26] false), .nilFunc, 1, 8, []⟩),
  (60, ⟨(TypeDesc.func #[9] #[33, 3] false), .nilFunc, 1, 8, []⟩),
  (61, ⟨(TypeDesc.func #[9, 9, 9, 5] #[4] false), .nilFunc, 1, 8, []⟩),
  (62, ⟨(TypeDesc.func #[9, 3] #[4] false), .nilFunc, 1, 8, []⟩),
  (63, ⟨(TypeDesc.func #[3] #[9] false), .nilFunc, 1, 8, []⟩),
  (64, ⟨(TypeDesc.func #[33, 9] #[4] false), .nilFunc, 1, 8, []⟩),
  (65, ⟨(TypeDesc.func #[] #[33] false), .nilFunc, 1, 8, []⟩),
  (66, ⟨(TypeDesc.func #[5, 9] #[4] false), .nilFunc, 1, 8, []⟩),
  (67, ⟨(TypeDesc.int IntKind.u64), .int .u64 0, 1, 8, []⟩),
  (68, ⟨(TypeDesc.func #[5] #[4] false), .nilFunc, 1, 8, []⟩),
  (69, ⟨(TypeDesc.map 9 3), .map none, 1, 8, []⟩),
  (70, ⟨(TypeDesc.func #[9] #[33] false), .nilFunc, 1, 8, []⟩),
  (71, ⟨(TypeDesc.func #[33, 9] #[9] false), .nilFunc, 1, 8, []⟩),
  (72, ⟨TypeDesc.string, str [], 1, 16, []⟩),
  (73, ⟨(TypeDesc.func #[68] #[4] false), .nilFunc, 1, 8, []⟩),
  (74, ⟨(TypeDesc.func #[9, 5] #[3] false), .nilFunc, 1, 8, []⟩),
  (75, ⟨(TypeDesc.func #[22, 77] #[22] false), .nilFunc, 1, 8, []⟩),
  (76, ⟨(TypeDesc.func #[22] #[22] false), .nilFunc, 1, 8, []⟩),
  (77, ⟨(TypeDesc.func #[43] #[4] false), .nilFunc, 1, 8, []⟩),
  (79, ⟨(TypeDesc.func #[9, 9] #[9, 9, 4] false), .nilFunc, 1, 8, []⟩),
  (81, ⟨(TypeDesc.func #[9] #[3, 4] false), .nilFunc, 1, 8, []⟩),
  (82, ⟨(TypeDesc.func #[38] #[] false), .nilFunc, 1, 8, []⟩),
  (83, ⟨(TypeDesc.func #[38] #[] false), .nilFunc, 1, 8, []⟩),
  (84, ⟨(TypeDesc.func #[9, 9] #[83] false), .nilFunc, 1, 8, []⟩),
  (85, ⟨(TypeDesc.func #[33, 9] #[3] false), .nilFunc, 1, 8, []⟩),
  (86, ⟨(TypeDesc.func #[9, 9] #[9] false), .nilFunc, 1, 8, []⟩),
  (87, ⟨(TypeDesc.pointer 89), .pointer none, 1, 8, []⟩),
  (88, ⟨(TypeDesc.struct #[{ name := "addr", type := 87, offset := 0, embedded := false, tag := "", pkgPath := "strings", byteOffset := 0 }, { name := "buf", type := 23, offset := 1, embedded := false, tag := "", pkgPath := "strings", byteOffset := 8 }]), .agg ⟨[.pointer none, .slice none 0 0]⟩, 2, 32, [(0, 1), (1, 1)]⟩),
  (89, ⟨(TypeDesc.struct #[{ name := "addr", type := 87, offset := 0, embedded := false, tag := "", pkgPath := "strings", byteOffset := 0 }, { name := "buf", type := 23, offset := 1, embedded := false, tag := "", pkgPath := "strings", byteOffset := 8 }]), .agg ⟨[.pointer none, .slice none 0 0]⟩, 2, 32, [(0, 1), (1, 1)]⟩),
  (90, ⟨(TypeDesc.func #[3] #[] false), .nilFunc, 1, 8, []⟩),
  (91, ⟨(TypeDesc.interface #[("Error", 95)]), .nilIface, 1, 16, []⟩),
  (92, ⟨(TypeDesc.interface #[("Error", 95)]), .nilIface, 1, 16, []⟩),
  (94, ⟨(TypeDesc.func #[9] #[3, 92] false), .nilFunc, 1, 8, []⟩),
  (95, ⟨(TypeDesc.func #[] #[9] false), .nilFunc, 1, 8, []⟩),
  (96, ⟨(TypeDesc.func #[22, 77] #[3] false), .nilFunc, 1, 8, []⟩),
  (98, ⟨(TypeDesc.func #[9, 9] #[9, 4] false), .nilFunc, 1, 8, []⟩),
  (99, ⟨(TypeDesc.func #[9, 9, 3] #[83] false), .nilFunc, 1, 8, []⟩),
  (101, ⟨(TypeDesc.func #[9] #[5, 4] false), .nilFunc, 1, 8, []⟩),
  (102, ⟨(TypeDesc.func #[5] #[3] false), .nilFunc, 1, 8, []⟩),
  (103, ⟨(TypeDesc.func #[2, 3] #[9] false), .nilFunc, 1, 8, []⟩),
  (104, ⟨(TypeDesc.func #[9, 5] #[9] false), .nilFunc, 1, 8, []⟩),
  (108, ⟨(TypeDesc.func #[9] #[106, 4] false), .nilFunc, 1, 8, []⟩),
  (109, ⟨(TypeDesc.func #[9, 110] #[9] false), .nilFunc, 1, 8, []⟩),
  (110, ⟨(TypeDesc.pointer 106), .pointer none, 1, 8, []⟩),
  (111, ⟨(TypeDesc.pointer 5), .pointer none, 1, 8, []⟩),
  (112, ⟨(TypeDesc.func #[9, 9] #[3] false), .nilFunc, 1, 8, []⟩),
  (114, ⟨(TypeDesc.func #[9] #[21, 3] false), .nilFunc, 1, 8, []⟩),
  (115, ⟨(TypeDesc.int IntKind.u64), .int .u64 0, 1, 8, []⟩),
  (117, ⟨(TypeDesc.func #[9, 3, 3] #[115, 92] false), .nilFunc, 1, 8, []⟩),
  (118, ⟨(TypeDesc.array 24 5), .agg ⟨[.int .u8 0, .int .u8 0, .int .u8 0, .int .u8 0, .int .u8 0, .int .u8 0, .int .u8 0, .int .u8 0, .int .u8 0, .int .u8 0, .int .u8 0, .int .u8 0, .int .u8 0, .int .u8 0, .int .u8 0, .int .u8 0, .int .u8 0, .int .u8 0, .int .u8 0, .int .u8 0, .int .u8 0, .int .u8 0, .int .u8 0, .int .u8 0]⟩, 24, 24, []⟩),
  (119, ⟨(TypeDesc.func #[115] #[3] false), .nilFunc, 1, 8, []⟩),
  (120, ⟨(TypeDesc.func #[23, 115] #[] false), .nilFunc, 1, 8, []⟩),
  (122, ⟨(TypeDesc.func #[23, 115, 3, 4, 4] #[23, 9] false), .nilFunc, 1, 8, []⟩),
  (123, ⟨(TypeDesc.func #[9, 21] #[4] false), .nilFunc, 1, 8, []⟩),
  (124, ⟨TypeDesc.unsafePointer, .pointer none, 1, 8, []⟩),
  (125, ⟨(TypeDesc.func #[124] #[124] false), .nilFunc, 1, 8, []⟩),
  (126, ⟨(TypeDesc.func #[3] #[23] false), .nilFunc, 1, 8, []⟩),
  (127, ⟨(TypeDesc.func #[3] #[3] false), .nilFunc, 1, 8, []⟩),
  (128, ⟨(TypeDesc.func #[9, 9, 3, 3, 92] #[92] false), .nilFunc, 1, 8, []⟩),
  (129, ⟨(TypeDesc.func #[4] #[3] false), .nilFunc, 1, 8, []⟩),
  (130, ⟨(TypeDesc.array 20 115), .agg ⟨[.int .u64 0, .int .u64 0, .int .u64 0, .int .u64 0, .int .u64 0, .int .u64 0, .int .u64 0, .int .u64 0, .int .u64 0, .int .u64 0, .int .u64 0, .int .u64 0, .int .u64 0, .int .u64 0, .int .u64 0, .int .u64 0, .int .u64 0, .int .u64 0, .int .u64 0, .int .u64 0]⟩, 20, 160, []⟩),
  (131, ⟨(TypeDesc.int IntKind.u32), .int .u32 0, 1, 4, []⟩),
  (133, ⟨(TypeDesc.func #[3] #[4] false), .nilFunc, 1, 8, []⟩),
  (134, ⟨(TypeDesc.func #[67] #[3] false), .nilFunc, 1, 8, []⟩),
  (135, ⟨(TypeDesc.func #[9, 21] #[3] false), .nilFunc, 1, 8, []⟩),
  (137, ⟨(TypeDesc.func #[9] #[131, 131] false), .nilFunc, 1, 8, []⟩),
  (139, ⟨(TypeDesc.struct #[{ name := "lo", type := 5, offset := 0, embedded := false, tag := "", pkgPath := "unicode/utf8", byteOffset := 0 }, { name := "hi", type := 5, offset := 1, embedded := false, tag := "", pkgPath := "unicode/utf8", byteOffset := 1 }]), .agg ⟨[.int .u8 0, .int .u8 0]⟩, 2, 2, [(0, 1), (1, 1)]⟩),
  (140, ⟨(TypeDesc.struct #[{ name := "lo", type := 5, offset := 0, embedded := false, tag := "", pkgPath := "unicode/utf8", byteOffset := 0 }, { name := "hi", type := 5, offset := 1, embedded := false, tag := "", pkgPath := "unicode/utf8", byteOffset := 1 }]), .agg ⟨[.int .u8 0, .int .u8 0]⟩, 2, 2, [(0, 1), (1, 1)]⟩),
  (141, ⟨(TypeDesc.array 16 140), .agg ⟨[.int .u8 0, .int .u8 0, .int .u8 0, .int .u8 0, .int .u8 0, .int .u8 0, .int .u8 0, .int .u8 0, .int .u8 0, .int .u8 0, .int .u8 0, .int .u8 0, .int .u8 0, .int .u8 0, .int .u8 0, .int .u8 0, .int .u8 0, .int .u8 0, .int .u8 0, .int .u8 0, .int .u8 0, .int .u8 0, .int .u8 0, .int .u8 0, .int .u8 0, .int .u8 0, .int .u8 0, .int .u8 0, .int .u8 0, .int .u8 0, .int .u8 0, .int .u8 0]⟩, 32, 32, []⟩),
  (142, ⟨(TypeDesc.int IntKind.i64), .int .i64 0, 1, 8, []⟩),
  (143, ⟨(TypeDesc.func #[5] #[5] false), .nilFunc, 1, 8, []⟩),
  (144, ⟨(TypeDesc.pointer 150), .pointer none, 1, 8, []⟩),
  (145, ⟨(TypeDesc.func #[9, 9] #[144] false), .nilFunc, 1, 8, []⟩),
  (146, ⟨(TypeDesc.func #[9, 9, 3] #[144] false), .nilFunc, 1, 8, []⟩),
  (147, ⟨(TypeDesc.func #[131] #[3] false), .nilFunc, 1, 8, []⟩),
  (148, ⟨(TypeDesc.func #[21] #[4] false), .nilFunc, 1, 8, []⟩),
  (149, ⟨(TypeDesc.struct #[{ name := "Func", type := 9, offset := 0, embedded := false, tag := "", pkgPath := "", byteOffset := 0 }, { name := "Num", type := 9, offset := 1, embedded := false, tag := "", pkgPath := "", byteOffset := 16 }, { name := "Err", type := 92, offset := 2, embedded := false, tag := "", pkgPath := "", byteOffset := 32 }]), .agg ⟨[str [], str [], .nilIface]⟩, 3, 48, [(0, 1), (1, 1), (2, 1)]⟩),
  (150, ⟨(TypeDesc.struct #[{ name := "Func", type := 9, offset := 0, embedded := false, tag := "", pkgPath := "", byteOffset := 0 }, { name := "Num", type := 9, offset := 1, embedded := false, tag := "", pkgPath := "", byteOffset := 16 }, { name := "Err", type := 92, offset := 2, embedded := false, tag := "", pkgPath := "", byteOffset := 32 }]), .agg ⟨[str [], str [], .nilIface]⟩, 3, 48, [(0, 1), (1, 1), (2, 1)]⟩),
  (151, ⟨(TypeDesc.func #[9] #[92] false), .nilFunc, 1, 8, []⟩),
  (152, ⟨(TypeDesc.array 32 5), .agg ⟨[.int .u8 0, .int .u8 0, .int .u8 0, .int .u8 0, .int .u8 0, .int .u8 0, .int .u8 0, .int .u8 0, .int .u8 0, .int .u8 0, .int .u8 0, .int .u8 0, .int .u8 0, .int .u8 0, .int .u8 0, .int .u8 0, .int .u8 0, .int .u8 0, .int .u8 0, .int .u8 0, .int .u8 0, .int .u8 0, .int .u8 0, .int .u8 0, .int .u8 0, .int .u8 0, .int .u8 0, .int .u8 0, .int .u8 0, .int .u8 0, .int .u8 0, .int .u8 0]⟩, 32, 32, []⟩),
  (153, ⟨(TypeDesc.array 64 5), .agg ⟨[.int .u8 0, .int .u8 0, .int .u8 0, .int .u8 0, .int .u8 0, .int .u8 0, .int .u8 0, .int .u8 0, .int .u8 0, .int .u8 0, .int .u8 0, .int .u8 0, .int .u8 0, .int .u8 0, .int .u8 0, .int .u8 0, .int .u8 0, .int .u8 0, .int .u8 0, .int .u8 0, .int .u8 0, .int .u8 0, .int .u8 0, .int .u8 0, .int .u8 0, .int .u8 0, .int .u8 0, .int .u8 0, .int .u8 0, .int .u8 0, .int .u8 0, .int .u8 0, .int .u8 0, .int .u8 0, .int .u8 0, .int .u8 0, .int .u8 0, .int .u8 0, .int .u8 0, .int .u8 0, .int .u8 0, .int .u8 0, .int .u8 0, .int .u8 0, .int .u8 0, .int .u8 0, .int .u8 0, .int .u8 0, .int .u8 0, .int .u8 0, .int .u8 0, .int .u8 0, .int .u8 0, .int .u8 0, .int .u8 0, .int .u8 0, .int .u8 0, .int .u8 0, .int .u8 0, .int .u8 0, .int .u8 0, .int .u8 0, .int .u8 0, .int .u8 0]⟩, 64, 64, []⟩),
  (154, ⟨(TypeDesc.pointer 156), .pointer none, 1, 8, []⟩),
  (155, ⟨(TypeDesc.struct #[{ name := "s", type := 9, offset := 0, embedded := false, tag := "", pkgPath := "errors", byteOffset := 0 }]), .agg ⟨[str []]⟩, 1, 16, [(0, 1)]⟩),
  (156, ⟨(TypeDesc.struct #[{ name := "s", type := 9, offset := 0, embedded := false, tag := "", pkgPath := "errors", byteOffset := 0 }]), .agg ⟨[str []]⟩, 1, 16, [(0, 1)]⟩),
  (157, ⟨(TypeDesc.struct #[{ name := "_interface", type := 17, offset := 0, embedded := false, tag := "", pkgPath := "runtime", byteOffset := 0 }, { name := "concrete", type := 17, offset := 1, embedded := false, tag := "", pkgPath := "runtime", byteOffset := 8 }, { name := "asserted", type := 17, offset := 2, embedded := false, tag := "", pkgPath := "runtime", byteOffset := 16 }, { name := "missingMethod", type := 9, offset := 3, embedded := false, tag := "", pkgPath := "runtime", byteOffset := 24 }]), .agg ⟨[.pointer none, .pointer none, .pointer none, str []]⟩, 4, 40, [(0, 1), (1, 1), (2, 1), (3, 1)]⟩),
  (158, ⟨(TypeDesc.struct #[{ name := "_interface", type := 17, offset := 0, embedded := false, tag := "", pkgPath := "runtime", byteOffset := 0 }, { name := "concrete", type := 17, offset := 1, embedded := false, tag := "", pkgPath := "runtime", byteOffset := 8 }, { name := "asserted", type := 17, offset := 2, embedded := false, tag := "", pkgPath := "runtime", byteOffset := 16 }, { name := "missingMethod", type := 9, offset := 3, embedded := false, tag := "", pkgPath := "runtime", byteOffset := 24 }]), .agg ⟨[.pointer none, .pointer none, .pointer none, str []]⟩, 4, 40, [(0, 1), (1, 1), (2, 1), (3, 1)]⟩),
  (159, ⟨(TypeDesc.array 0 16), .agg ⟨[]⟩, 0, 0, []⟩),
  (160, ⟨(TypeDesc.struct #[{ name := "_", type := 159, offset := 0, embedded := false, tag := "", pkgPath := "runtime", byteOffset := 0 }]), .agg ⟨[]⟩, 0, 0, [(0, 0)]⟩),
  (161, ⟨(TypeDesc.struct #[{ name := "_", type := 159, offset := 0, embedded := false, tag := "", pkgPath := "runtime", byteOffset := 0 }]), .agg ⟨[]⟩, 0, 0, [(0, 0)]⟩),
  (162, ⟨(TypeDesc.func #[] #[3] false), .nilFunc, 1, 8, []⟩),
  (163, ⟨(TypeDesc.int IntKind.u8), .int .u8 0, 1, 1, []⟩),
  (164, ⟨(TypeDesc.int IntKind.u8), .int .u8 0, 1, 1, []⟩),
  (165, ⟨(TypeDesc.func #[124, 124] #[4] false), .nilFunc, 1, 8, []⟩),
  (166, ⟨(TypeDesc.int IntKind.i32), .int .i32 0, 1, 4, []⟩),
  (167, ⟨(TypeDesc.int IntKind.i32), .int .i32 0, 1, 4, []⟩),
  (168, ⟨(TypeDesc.struct #[{ name := "Size_", type := 12, offset := 0, embedded := false, tag := "", pkgPath := "", byteOffset := 0 }, { name := "PtrBytes", type := 12, offset := 1, embedded := false, tag := "", pkgPath := "", byteOffset := 8 }, { name := "Hash", type := 131, offset := 2, embedded := false, tag := "", pkgPath := "", byteOffset := 16 }, { name := "TFlag", type := 163, offset := 3, embedded := false, tag := "", pkgPath := "", byteOffset := 20 }, { name := "Align_", type := 5, offset := 4, embedded := false, tag := "", pkgPath := "", byteOffset := 21 }, { name := "FieldAlign_", type := 5, offset := 5, embedded := false, tag := "", pkgPath := "", byteOffset := 22 }, { name := "Kind_", type := 164, offset := 6, embedded := false, tag := "", pkgPath := "", byteOffset := 23 }, { name := "Equal", type := 165, offset := 7, embedded := false, tag := "", pkgPath := "", byteOffset := 24 }, { name := "GCData", type := 111, offset := 8, embedded := false, tag := "", pkgPath := "", byteOffset := 32 }, { name := "Str", type := 166, offset := 9, embedded := false, tag := "", pkgPath := "", byteOffset := 40 }, { name := "PtrToThis", type := 167, offset := 10, embedded := false, tag := "", pkgPath := "", byteOffset := 44 }]), .agg ⟨[.int .u64 0, .int .u64 0, .int .u32 0, .int .u8 0, .int .u8 0, .int .u8 0, .int .u8 0, .nilFunc, .pointer none, .int .i32 0, .int .i32 0]⟩, 11, 48, [(0, 1), (1, 1), (2, 1), (3, 1), (4, 1), (5, 1), (6, 1), (7, 1), (8, 1), (9, 1), (10, 1)]⟩),
  (169, ⟨(TypeDesc.struct #[{ name := "Size_", type := 12, offset := 0, embedded := false, tag := "", pkgPath := "", byteOffset := 0 }, { name := "PtrBytes", type := 12, offset := 1, embedded := false, tag := "", pkgPath := "", byteOffset := 8 }, { name := "Hash", type := 131, offset := 2, embedded := false, tag := "", pkgPath := "", byteOffset := 16 }, { name := "TFlag", type := 163, offset := 3, embedded := false, tag := "", pkgPath := "", byteOffset := 20 }, { name := "Align_", type := 5, offset := 4, embedded := false, tag := "", pkgPath := "", byteOffset := 21 }, { name := "FieldAlign_", type := 5, offset := 5, embedded := false, tag := "", pkgPath := "", byteOffset := 22 }, { name := "Kind_", type := 164, offset := 6, embedded := false, tag := "", pkgPath := "", byteOffset := 23 }, { name := "Equal", type := 165, offset := 7, embedded := false, tag := "", pkgPath := "", byteOffset := 24 }, { name := "GCData", type := 111, offset := 8, embedded := false, tag := "", pkgPath := "", byteOffset := 32 }, { name := "Str", type := 166, offset := 9, embedded := false, tag := "", pkgPath := "", byteOffset := 40 }, { name := "PtrToThis", type := 167, offset := 10, embedded := false, tag := "", pkgPath := "", byteOffset := 44 }]), .agg ⟨[.int .u64 0, .int .u64 0, .int .u32 0, .int .u8 0, .int .u8 0, .int .u8 0, .int .u8 0, .nilFunc, .pointer none, .int .i32 0, .int .i32 0]⟩, 11, 48, [(0, 1), (1, 1), (2, 1), (3, 1), (4, 1), (5, 1), (6, 1), (7, 1), (8, 1), (9, 1), (10, 1)]⟩)]
set_option maxRecDepth 100000 in
theorem tys_ok : TOk Tryd.prog tys :=
  TOk.cons ⟨Tryd.underlying1, by kernel_rfl, trivial⟩
  (TOk.cons ⟨Tryd.underlying2, by kernel_rfl, trivial⟩
  (TOk.cons ⟨Tryd.underlying3, by kernel_rfl, trivial⟩
  (TOk.cons ⟨Tryd.underlying4, by kernel_rfl, trivial⟩
  (TOk.cons ⟨Tryd.underlying5, by kernel_rfl, trivial⟩
  (TOk.cons ⟨Tryd.underlying6, by kernel_rfl, trivial⟩
  (TOk.cons ⟨Tryd.underlying7, by kernel_rfl, by show (_ : List (Nat × Option Nat)) = _; kernel_rfl⟩
  (TOk.cons ⟨Tryd.underlying8, by kernel_rfl, by show (_ : List (Nat × Option Nat)) = _; kernel_rfl⟩
  (TOk.cons ⟨Tryd.underlying9, by kernel_rfl, trivial⟩
  (TOk.cons ⟨Tryd.underlying10, by kernel_rfl, trivial⟩
  (TOk.cons ⟨Tryd.underlying11, by kernel_rfl, trivial⟩
  (TOk.cons ⟨Tryd.underlying12, by kernel_rfl, trivial⟩
  (TOk.cons ⟨Tryd.underlying13, by kernel_rfl, by show (_ : List (Nat × Option Nat)) = _; kernel_rfl⟩
  (TOk.cons ⟨Tryd.underlying14, by kernel_rfl, by show (_ : List (Nat × Option Nat)) = _; kernel_rfl⟩
  (TOk.cons ⟨Tryd.underlying15, by kernel_rfl, trivial⟩
  (TOk.cons ⟨Tryd.underlying16, by kernel_rfl, trivial⟩
  (TOk.cons ⟨Tryd.underlying17, by kernel_rfl, trivial⟩
  (TOk.cons ⟨Tryd.underlying18, by kernel_rfl, by show (_ : List (Nat × Option Nat)) = _; kernel_rfl⟩
  (TOk.cons ⟨Tryd.underlying19, by kernel_rfl, by show (_ : List (Nat × Option Nat)) = _; kernel_rfl⟩
  (TOk.cons ⟨Tryd.underlying20, by kernel_rfl, trivial⟩
  (TOk.cons ⟨Tryd.underlying21, by kernel_rfl, trivial⟩
  (TOk.cons ⟨Tryd.underlying22, by kernel_rfl, trivial⟩
  (TOk.cons ⟨Tryd.underlying23, by kernel_rfl, trivial⟩
  (TOk.cons ⟨Tryd.underlying24, by kernel_rfl, by show (_ : List (Nat × Option Nat)) = _; kernel_rfl⟩
  (TOk.cons ⟨Tryd.underlying25, by kernel_rfl, by show (_ : List (Nat × Option Nat)) = _; kernel_rfl⟩
  (TOk.cons ⟨Tryd.underlying26, by kernel_rfl, trivial⟩
  (TOk.cons ⟨Tryd.underlying28, by kernel_rfl, trivial⟩
  (TOk.cons ⟨Tryd.underlying30, by kernel_rfl, trivial⟩
  (TOk.cons ⟨Tryd.underlying31, by kernel_rfl, trivial⟩
  (TOk.cons ⟨Tryd.underlying32, by kernel_rfl, trivial⟩
  (TOk.cons ⟨Tryd.underlying33, by kernel_rfl, trivial⟩
  (TOk.cons ⟨Tryd.underlying34, by kernel_rfl, trivial⟩
  (TOk.cons ⟨Tryd.underlying35, by kernel_rfl, trivial⟩
  (TOk.cons ⟨Tryd.underlying36, by kernel_rfl, trivial⟩
  (TOk.cons ⟨Tryd.underlying37, by kernel_rfl, trivial⟩
  (TOk.cons ⟨Tryd.underlying38, by kernel_rfl, trivial⟩
  (TOk.cons ⟨Tryd.underlying39, by kernel_rfl, trivial⟩
  (TOk.cons ⟨Tryd.underlying41, by kernel_rfl, trivial⟩
  (TOk.cons ⟨Tryd.underlying42, by kernel_rfl, by show (_ : List (Nat × Option Nat)) = _; kernel_rfl⟩
  (TOk.cons ⟨Tryd.underlying43, by kernel_rfl, by show (_ : List (Nat × Option Nat)) = _; kernel_rfl⟩
  (TOk.cons ⟨Tryd.underlying44, by kernel_rfl, trivial⟩
  (TOk.cons ⟨Tryd.underlying45, by kernel_rfl, trivial⟩
  (TOk.cons ⟨Tryd.underlying46, by kernel_rfl, trivial⟩
  (TOk.cons ⟨Tryd.underlying48, by kernel_rfl, trivial⟩
  (TOk.cons ⟨Tryd.underlying49, by kernel_rfl, trivial⟩
  (TOk.cons ⟨Tryd.underlying50, by kernel_rfl, trivial⟩
  (TOk.cons ⟨Tryd.underlying51, by kernel_rfl, trivial⟩
  (TOk.cons ⟨Tryd.underlying52, by kernel_rfl, trivial⟩
  (TOk.cons ⟨Tryd.underlying53, by kernel_rfl, trivial⟩
  (TOk.cons ⟨Tryd.underlying55, by kernel_rfl, trivial⟩
  (TOk.cons ⟨Tryd.underlying56, by kernel_rfl, trivial⟩
  (TOk.cons ⟨Tryd.underlying58, by kernel_rfl, trivial⟩
  (TOk.cons ⟨Tryd.underlying60, by kernel_rfl, trivial⟩
  (TOk.cons ⟨Tryd.underlying61, by kernel_rfl, trivial⟩
  (TOk.cons ⟨Tryd.underlying62, by kernel_rfl, trivial⟩
  (TOk.cons ⟨Tryd.underlying63, by kernel_rfl, trivial⟩
  (TOk.cons ⟨Tryd.underlying64, by kernel_rfl, trivial⟩
  (TOk.cons ⟨Tryd.underlying65, by kernel_rfl, trivial⟩
  (TOk.cons ⟨Tryd.underlying66, by kernel_rfl, trivial⟩
  (TOk.cons ⟨Tryd.underlying67, by kernel_rfl, trivial⟩
  (TOk.cons ⟨Tryd.underlying68, by kernel_rfl, trivial⟩
  (TOk.cons ⟨Tryd.underlying69, by kernel_rfl, trivial⟩
  (TOk.cons ⟨Tryd.underlying70, by kernel_rfl, trivial⟩
  (TOk.cons ⟨Tryd.underlying71, by kernel_rfl, trivial⟩
  (TOk.cons ⟨Tryd.underlying72, by kernel_rfl, trivial⟩
  (TOk.cons ⟨Tryd.underlying73, by kernel_rfl, trivial⟩
  (TOk.cons ⟨Tryd.underlying74, by kernel_rfl, trivial⟩
  (TOk.cons ⟨Tryd.underlying75, by kernel_rfl, trivial⟩
  (TOk.cons ⟨Tryd.underlying76, by kernel_rfl, trivial⟩
  (TOk.cons ⟨Tryd.underlying77, by kernel_rfl, trivial⟩
  (TOk.cons ⟨Tryd.underlying79, by kernel_rfl, trivial⟩
  (TOk.cons ⟨Tryd.underlying81, by kernel_rfl, trivial⟩
  (TOk.cons ⟨Tryd.underlying82, by kernel_rfl, trivial⟩
  (TOk.cons ⟨Tryd.underlying83, by kernel_rfl, trivial⟩
  (TOk.cons ⟨Tryd.underlying84, by kernel_rfl, trivial⟩
  (TOk.cons ⟨Tryd.underlying85, by kernel_rfl, trivial⟩
  (TOk.cons ⟨Tryd.underlying86, by kernel_rfl, trivial⟩
  (TOk.cons ⟨Tryd.underlying87, by kernel_rfl, trivial⟩
  (TOk.cons ⟨Tryd.underlying88, by kernel_rfl, by show (_ : List (Nat × Option Nat)) = _; kernel_rfl⟩
  (TOk.cons ⟨Tryd.underlying89, by kernel_rfl, by show (_ : List (Nat × Option Nat)) = _; kernel_rfl⟩
  (TOk.cons ⟨Tryd.underlying90, by kernel_rfl, trivial⟩
  (TOk.cons ⟨Tryd.underlying91, by kernel_rfl, trivial⟩
  (TOk.cons ⟨Tryd.underlying92, by kernel_rfl, trivial⟩
  (TOk.cons ⟨Tryd.underlying94, by kernel_rfl, trivial⟩
  (TOk.cons ⟨Tryd.underlying95, by kernel_rfl, trivial⟩
  (TOk.cons ⟨Tryd.underlying96, by kernel_rfl, trivial⟩
  (TOk.cons ⟨Tryd.underlying98, by kernel_rfl, trivial⟩
  (TOk.cons ⟨Tryd.underlying99, by kernel_rfl, trivial⟩
  (TOk.cons ⟨Tryd.underlying101, by kernel_rfl, trivial⟩
  (TOk.cons ⟨Tryd.underlying102, by kernel_rfl, trivial⟩
  (TOk.cons ⟨Tryd.underlying103, by kernel_rfl, trivial⟩
  (TOk.cons ⟨Tryd.underlying104, by kernel_rfl, trivial⟩
  (TOk.cons ⟨Tryd.underlying108, by kernel_rfl, trivial⟩
  (TOk.cons ⟨Tryd.underlying109, by kernel_rfl, trivial⟩
  (TOk.cons ⟨Tryd.underlying110, by kernel_rfl, trivial⟩
  (TOk.cons ⟨Tryd.underlying111, by kernel_rfl, trivial⟩
  (TOk.cons ⟨Tryd.underlying112, by kernel_rfl, trivial⟩
  (TOk.cons ⟨Tryd.underlying114, by kernel_rfl, trivial⟩
  (TOk.cons ⟨Tryd.underlying115, by kernel_rfl, trivial⟩
  (TOk.cons ⟨Tryd.underlying117, by kernel_rfl, trivial⟩
  (TOk.cons ⟨Tryd.underlying118, by kernel_rfl, trivial⟩
  (TOk.cons ⟨Tryd.underlying119, by kernel_rfl, trivial⟩
  (TOk.cons ⟨Tryd.underlying120, by kernel_rfl, trivial⟩
  (TOk.cons ⟨Tryd.underlying122, by kernel_rfl, trivial⟩
  (TOk.cons ⟨Tryd.underlying123, by kernel_rfl, trivial⟩
  (TOk.cons ⟨Tryd.underlying124, by kernel_rfl, trivial⟩
  (TOk.cons ⟨Tryd.underlying125, by kernel_rfl, trivial⟩
  (TOk.cons ⟨Tryd.underlying126, by kernel_rfl, trivial⟩
  (TOk.cons ⟨Tryd.underlying127, by kernel_rfl, trivial⟩
  (TOk.cons ⟨Tryd.underlying128, by kernel_rfl, trivial⟩
  (TOk.cons ⟨Tryd.underlying129, by kernel_rfl, trivial⟩
  (TOk.cons ⟨Tryd.underlying130, by kernel_rfl, trivial⟩
  (TOk.cons ⟨Tryd.underlying131, by kernel_rfl, trivial⟩
  (TOk.cons ⟨Tryd.underlying133, by kernel_rfl, trivial⟩
  (TOk.cons ⟨Tryd.underlying134, by kernel_rfl, trivial⟩
  (TOk.cons ⟨Tryd.underlying135, by kernel_rfl, trivial⟩
  (TOk.cons ⟨Tryd.underlying137, by kernel_rfl, trivial⟩
  (TOk.cons ⟨Tryd.underlying139, by kernel_rfl, by show (_ : List (Nat × Option Nat)) = _; kernel_rfl⟩
  (TOk.cons ⟨Tryd.underlying140, by kernel_rfl, by show (_ : List (Nat × Option Nat)) = _; kernel_rfl⟩
  (TOk.cons ⟨Tryd.underlying141, by kernel_rfl, trivial⟩
  (TOk.cons ⟨Tryd.underlying142, by kernel_rfl, trivial⟩
  (TOk.cons ⟨Tryd.underlying143, by kernel_rfl, trivial⟩
  (TOk.cons ⟨Tryd.underlying144, by kernel_rfl, trivial⟩
  (TOk.cons ⟨Tryd.underlying145, by kernel_rfl, trivial⟩
  (TOk.cons ⟨Tryd.underlying146, by kernel_rfl, trivial⟩
  (TOk.cons ⟨Tryd.underlying147, by kernel_rfl, trivial⟩
  (TOk.cons ⟨Tryd.underlying148, by kernel_rfl, trivial⟩
  (TOk.cons ⟨Tryd.underlying149, by kernel_rfl, by show (_ : List (Nat × Option Nat)) = _; kernel_rfl⟩
  (TOk.cons ⟨Tryd.underlying150, by kernel_rfl, by show (_ : List (Nat × Option Nat)) = _; kernel_rfl⟩
  (TOk.cons ⟨Tryd.underlying151, by kernel_rfl, trivial⟩
  (TOk.cons ⟨Tryd.underlying152, by kernel_rfl, trivial⟩
  (TOk.cons ⟨Tryd.underlying153, by kernel_rfl, trivial⟩
  (TOk.cons ⟨Tryd.underlying154, by kernel_rfl, trivial⟩
  (TOk.cons ⟨Tryd.underlying155, by kernel_rfl, by show (_ : List (Nat × Option Nat)) = _; kernel_rfl⟩
  (TOk.cons ⟨Tryd.underlying156, by kernel_rfl, by show (_ : List (Nat × Option Nat)) = _; kernel_rfl⟩
  (TOk.cons ⟨Tryd.underlying157, by kernel_rfl, by show (_ : List (Nat × Option Nat)) = _; kernel_rfl⟩
  (TOk.cons ⟨Tryd.underlying158, by kernel_rfl, by show (_ : List (Nat × Option Nat)) = _; kernel_rfl⟩
  (TOk.cons ⟨Tryd.underlying159, by kernel_rfl, trivial⟩
  (TOk.cons ⟨Tryd.underlying160, by kernel_rfl, by show (_ : List (Nat × Option Nat)) = _; kernel_rfl⟩
  (TOk.cons ⟨Tryd.underlying161, by kernel_rfl, by show (_ : List (Nat × Option Nat)) = _; kernel_rfl⟩
  (TOk.cons ⟨Tryd.underlying162, by kernel_rfl, trivial⟩
  (TOk.cons ⟨Tryd.underlying163, by kernel_rfl, trivial⟩
  (TOk.cons ⟨Tryd.underlying164, by kernel_rfl, trivial⟩
  (TOk.cons ⟨Tryd.underlying165, by kernel_rfl, trivial⟩
  (TOk.cons ⟨Tryd.underlying166, by kernel_rfl, trivial⟩
  (TOk.cons ⟨Tryd.underlying167, by kernel_rfl, trivial⟩
  (TOk.cons ⟨Tryd.underlying168, by kernel_rfl, by show (_ : List (Nat × Option Nat)) = _; kernel_rfl⟩
  (TOk.cons ⟨Tryd.underlying169, by kernel_rfl, by show (_ : List (Nat × Option Nat)) = _; kernel_rfl⟩
  (TOk.nil _))))))))))))))))))))))))))))))))))))))))))))))))))))))))))))))))))))))))))))))))))))))))))))))))))))))))))))))))))))))))))))))))))))))))))))))))))))
theorem mixed : Tryd.prog.follows .mixedOrders = true := by kernel_rfl
end Go.Proofs.YtflfajcaicackaaDoor.Vex
