/- What some functions of the program answer at values that mean given lists and numbers, each proved of the program's own code. Conditions: those that each theorem names. -/
import Derived.Test.YtfhmfpneiagakaaV9
import Derived.Test.YtfhmfpneiagakaaProg
namespace Go.Proofs.Ytfhmfpneiagakaa
open Go Go.V
def tb : V.Tb := [(3, ⟨1, 8, .int .i64, [.int .i64 0]⟩),
  (4, ⟨1, 1, .bool, [.bool false]⟩),
  (5, ⟨1, 1, .int .u8, [.int .u8 0]⟩),
  (22, ⟨1, 24, .slice 3, [.nil]⟩),
  (24, ⟨3, 56, .struct [(0, 22), (1, 3), (2, 22)], [.nil, .int .i64 0, .nil]⟩),
  (25, ⟨1, 24, .slice 5, [.nil]⟩),
  (26, ⟨1, 24, .slice 62, [.nil]⟩),
  (28, ⟨4, 64, .struct [(0, 25), (1, 5), (2, 26), (3, 4)], [.nil, .int .u8 0, .nil, .bool false]⟩),
  (30, ⟨3, 16, .struct [(0, 5), (1, 5), (2, 3)], [.int .u8 0, .int .u8 0, .int .i64 0]⟩),
  (31, ⟨6, 32, .arr 2 30, [.int .u8 0, .int .u8 0, .int .i64 0, .int .u8 0, .int .u8 0, .int .i64 0]⟩),
  (32, ⟨4, 4, .arr 4 5, [.int .u8 0, .int .u8 0, .int .u8 0, .int .u8 0]⟩),
  (34, ⟨12, 224, .arr 4 24, [.nil, .int .i64 0, .nil, .nil, .int .i64 0, .nil, .nil, .int .i64 0, .nil, .nil, .int .i64 0, .nil]⟩),
  (37, ⟨3, 72, .arr 3 22, [.nil, .nil, .nil]⟩),
  (38, ⟨1, 8, .int .i64, [.int .i64 0]⟩),
  (45, ⟨2, 16, .arr 2 3, [.int .i64 0, .int .i64 0]⟩),
  (46, ⟨6, 48, .arr 3 45, [.int .i64 0, .int .i64 0, .int .i64 0, .int .i64 0, .int .i64 0, .int .i64 0]⟩),
  (50, ⟨4, 96, .arr 4 22, [.nil, .nil, .nil, .nil]⟩),
  (58, ⟨1, 24, .slice 24, [.nil]⟩),
  (62, ⟨1, 2, .int .u16, [.int .u16 0]⟩),
  (67, ⟨3, 56, .struct [(0, 24)], [.nil, .int .i64 0, .nil]⟩),
  (69, ⟨4, 32, .arr 4 3, [.int .i64 0, .int .i64 0, .int .i64 0, .int .i64 0]⟩),
  (76, ⟨1, 8, .func, [.any]⟩),
  (84, ⟨1, 8, .func, [.any]⟩),
  (86, ⟨1, 8, .func, [.any]⟩),
  (88, ⟨1, 8, .func, [.any]⟩),
  (90, ⟨1, 8, .func, [.any]⟩),
  (91, ⟨1, 8, .func, [.any]⟩)]

theorem tbOk : V.TbOk Try.prog tb := V.tbB_ok (by kernel_rfl)
end Go.Proofs.Ytfhmfpneiagakaa
