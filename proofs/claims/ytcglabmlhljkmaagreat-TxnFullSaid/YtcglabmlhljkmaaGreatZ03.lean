/- Texts of this claim, put together: GvTy, GvSeat, ChWalk, CrcPlain, CrcWalk, DkPlain, DkWalk, DvPlain, DkWalk2, DkWalk3, DkWalk4. -/
import Derived.Test.YtcglabmlhljkmaaGreatProg
import Derived.Test.YtcglabmlhljkmaaGreatZ01
import Derived.Test.YtcglabmlhljkmaaGreatZ02
section
/- What the types of the program are, as instances: written by gen_ty.py. -/
namespace Go.Proofs.YtcglabmlhljkmaaGreat
open Go Go.Gv
set_option maxRecDepth 100000
instance : TPlain Tryz.prog 1 := ⟨by kernel_rfl⟩
instance : TSize Tryz.prog 1 1 := ⟨by kernel_rfl⟩
instance : TPlain Tryz.prog 2 := ⟨by kernel_rfl⟩
instance : TSize Tryz.prog 2 1 := ⟨by kernel_rfl⟩
instance : TZero Tryz.prog 2 ([.int .i64 0]) := ⟨by kernel_rfl⟩
instance : TElem Tryz.prog 2 1 8 ([.int .i64 0]) := ⟨by kernel_rfl, by kernel_rfl⟩
instance : TInt Tryz.prog 2 .i64 := ⟨Tryz.underlying2⟩
instance : TPlain Tryz.prog 3 := ⟨by kernel_rfl⟩
instance : TSize Tryz.prog 3 1 := ⟨by kernel_rfl⟩
instance : TZero Tryz.prog 3 ([.int .i64 0]) := ⟨by kernel_rfl⟩
instance : TElem Tryz.prog 3 1 8 ([.int .i64 0]) := ⟨by kernel_rfl, by kernel_rfl⟩
instance : TInt Tryz.prog 3 .i64 := ⟨Tryz.underlying3⟩
instance : TPlain Tryz.prog 4 := ⟨by kernel_rfl⟩
instance : TSize Tryz.prog 4 1 := ⟨by kernel_rfl⟩
instance : TZero Tryz.prog 4 ([.bool false]) := ⟨by kernel_rfl⟩
instance : TElem Tryz.prog 4 1 1 ([.bool false]) := ⟨by kernel_rfl, by kernel_rfl⟩
instance : TBool Tryz.prog 4 := ⟨Tryz.underlying4⟩
instance : TPlain Tryz.prog 5 := ⟨by kernel_rfl⟩
instance : TSize Tryz.prog 5 1 := ⟨by kernel_rfl⟩
instance : TZero Tryz.prog 5 ([.int .u8 0]) := ⟨by kernel_rfl⟩
instance : TElem Tryz.prog 5 1 1 ([.int .u8 0]) := ⟨by kernel_rfl, by kernel_rfl⟩
instance : TInt Tryz.prog 5 .u8 := ⟨Tryz.underlying5⟩
instance : TAgg Tryz.prog 7 4 := ⟨by kernel_rfl, by kernel_rfl⟩
instance : TSize Tryz.prog 7 4 := ⟨by kernel_rfl⟩
instance : TZero Tryz.prog 7 ([.int .i64 0, .int .i64 0, .bool false, .int .u8 0]) := ⟨by kernel_rfl⟩
instance : TElem Tryz.prog 7 4 24 ([.int .i64 0, .int .i64 0, .bool false, .int .u8 0]) := ⟨by kernel_rfl, by kernel_rfl⟩
instance : TPlaces Tryz.prog 7 [(0, 1), (1, 1), (2, 1), (3, 1)] := ⟨by kernel_rfl⟩
instance : TField Tryz.prog 7 0 0 := ⟨_, _, Tryz.underlying7, rfl, rfl, by kernel_rfl⟩
instance : TField Tryz.prog 7 1 1 := ⟨_, _, Tryz.underlying7, rfl, rfl, by kernel_rfl⟩
instance : TField Tryz.prog 7 2 2 := ⟨_, _, Tryz.underlying7, rfl, rfl, by kernel_rfl⟩
instance : TField Tryz.prog 7 3 3 := ⟨_, _, Tryz.underlying7, rfl, rfl, by kernel_rfl⟩
instance : TEq Tryz.prog 7 ([.int .i64 0, .int .i64 0, .bool false, .int .u8 0]) := ⟨by kernel_rfl, by kernel_rfl, by kernel_rfl⟩
instance : TPlain Tryz.prog 9 := ⟨by kernel_rfl⟩
instance : TSize Tryz.prog 9 1 := ⟨by kernel_rfl⟩
instance : TZero Tryz.prog 9 ([.string ⟨#[]⟩]) := ⟨by kernel_rfl⟩
instance : TElem Tryz.prog 9 1 16 ([.string ⟨#[]⟩]) := ⟨by kernel_rfl, by kernel_rfl⟩
instance : TStr Tryz.prog 9 := ⟨Tryz.underlying9⟩
instance : TPlain Tryz.prog 12 := ⟨by kernel_rfl⟩
instance : TSize Tryz.prog 12 1 := ⟨by kernel_rfl⟩
instance : TZero Tryz.prog 12 ([.int .u64 0]) := ⟨by kernel_rfl⟩
instance : TElem Tryz.prog 12 1 8 ([.int .u64 0]) := ⟨by kernel_rfl, by kernel_rfl⟩
instance : TInt Tryz.prog 12 .u64 := ⟨Tryz.underlying12⟩
instance : TAgg Tryz.prog 13 2 := ⟨by kernel_rfl, by kernel_rfl⟩
instance : TSize Tryz.prog 13 2 := ⟨by kernel_rfl⟩
instance : TZero Tryz.prog 13 ([.string ⟨#[]⟩, .int .u64 0]) := ⟨by kernel_rfl⟩
instance : TElem Tryz.prog 13 2 24 ([.string ⟨#[]⟩, .int .u64 0]) := ⟨by kernel_rfl, by kernel_rfl⟩
instance : TPlaces Tryz.prog 13 [(0, 1), (1, 1)] := ⟨by kernel_rfl⟩
instance : TField Tryz.prog 13 0 0 := ⟨_, _, Tryz.underlying13, rfl, rfl, by kernel_rfl⟩
instance : TField Tryz.prog 13 1 1 := ⟨_, _, Tryz.underlying13, rfl, rfl, by kernel_rfl⟩
instance : TAgg Tryz.prog 18 1 := ⟨by kernel_rfl, by kernel_rfl⟩
instance : TSize Tryz.prog 18 1 := ⟨by kernel_rfl⟩
instance : TZero Tryz.prog 18 ([.pointer none]) := ⟨by kernel_rfl⟩
instance : TElem Tryz.prog 18 1 8 ([.pointer none]) := ⟨by kernel_rfl, by kernel_rfl⟩
instance : TPlaces Tryz.prog 18 [(0, 1)] := ⟨by kernel_rfl⟩
instance : TField Tryz.prog 18 0 0 := ⟨_, _, Tryz.underlying18, rfl, rfl, by kernel_rfl⟩
instance : TPlain Tryz.prog 20 := ⟨by kernel_rfl⟩
instance : TSize Tryz.prog 20 1 := ⟨by kernel_rfl⟩
instance : TZero Tryz.prog 20 ([.nilIface]) := ⟨by kernel_rfl⟩
instance : TElem Tryz.prog 20 1 16 ([.nilIface]) := ⟨by kernel_rfl, by kernel_rfl⟩
instance : TPlain Tryz.prog 21 := ⟨by kernel_rfl⟩
instance : TSize Tryz.prog 21 1 := ⟨by kernel_rfl⟩
instance : TZero Tryz.prog 21 ([.int .i32 0]) := ⟨by kernel_rfl⟩
instance : TElem Tryz.prog 21 1 4 ([.int .i32 0]) := ⟨by kernel_rfl, by kernel_rfl⟩
instance : TInt Tryz.prog 21 .i32 := ⟨Tryz.underlying21⟩
instance : TPlain Tryz.prog 22 := ⟨by kernel_rfl⟩
instance : TSize Tryz.prog 22 1 := ⟨by kernel_rfl⟩
instance : TZero Tryz.prog 22 ([.int .u64 0]) := ⟨by kernel_rfl⟩
instance : TElem Tryz.prog 22 1 8 ([.int .u64 0]) := ⟨by kernel_rfl, by kernel_rfl⟩
instance : TInt Tryz.prog 22 .u64 := ⟨Tryz.underlying22⟩
instance : TPlain Tryz.prog 23 := ⟨by kernel_rfl⟩
instance : TSize Tryz.prog 23 1 := ⟨by kernel_rfl⟩
instance : TZero Tryz.prog 23 ([.pointer none]) := ⟨by kernel_rfl⟩
instance : TElem Tryz.prog 23 1 8 ([.pointer none]) := ⟨by kernel_rfl, by kernel_rfl⟩
instance : TPtr Tryz.prog 23 := ⟨by kernel_rfl⟩
instance : TPlain Tryz.prog 24 := ⟨by kernel_rfl⟩
instance : TSize Tryz.prog 24 1 := ⟨by kernel_rfl⟩
instance : TZero Tryz.prog 24 ([.pointer none]) := ⟨by kernel_rfl⟩
instance : TElem Tryz.prog 24 1 8 ([.pointer none]) := ⟨by kernel_rfl, by kernel_rfl⟩
instance : TPtr Tryz.prog 24 := ⟨by kernel_rfl⟩
instance : TPlain Tryz.prog 26 := ⟨by kernel_rfl⟩
instance : TSize Tryz.prog 26 1 := ⟨by kernel_rfl⟩
instance : TPlain Tryz.prog 27 := ⟨by kernel_rfl⟩
instance : TSize Tryz.prog 27 1 := ⟨by kernel_rfl⟩
instance : TPlain Tryz.prog 28 := ⟨by kernel_rfl⟩
instance : TSize Tryz.prog 28 1 := ⟨by kernel_rfl⟩
instance : TZero Tryz.prog 28 ([.slice none 0 0]) := ⟨by kernel_rfl⟩
instance : TElem Tryz.prog 28 1 24 ([.slice none 0 0]) := ⟨by kernel_rfl, by kernel_rfl⟩
instance : TSlice Tryz.prog 28 34 := ⟨Tryz.underlying28⟩
instance : TPlain Tryz.prog 29 := ⟨by kernel_rfl⟩
instance : TSize Tryz.prog 29 1 := ⟨by kernel_rfl⟩
instance : TZero Tryz.prog 29 ([.slice none 0 0]) := ⟨by kernel_rfl⟩
instance : TElem Tryz.prog 29 1 24 ([.slice none 0 0]) := ⟨by kernel_rfl, by kernel_rfl⟩
instance : TSlice Tryz.prog 29 40 := ⟨Tryz.underlying29⟩
instance : TAgg Tryz.prog 30 2 := ⟨by kernel_rfl, by kernel_rfl⟩
instance : TSize Tryz.prog 30 2 := ⟨by kernel_rfl⟩
instance : TZero Tryz.prog 30 ([.int .i64 0, .int .i64 0]) := ⟨by kernel_rfl⟩
instance : TElem Tryz.prog 30 2 16 ([.int .i64 0, .int .i64 0]) := ⟨by kernel_rfl, by kernel_rfl⟩
instance : TPlaces Tryz.prog 30 [(0, 1), (1, 1)] := ⟨by kernel_rfl⟩
instance : TField Tryz.prog 30 0 0 := ⟨_, _, Tryz.underlying30, rfl, rfl, by kernel_rfl⟩
instance : TField Tryz.prog 30 1 1 := ⟨_, _, Tryz.underlying30, rfl, rfl, by kernel_rfl⟩
instance : TEq Tryz.prog 30 ([.int .i64 0, .int .i64 0]) := ⟨by kernel_rfl, by kernel_rfl, by kernel_rfl⟩
instance : TAgg Tryz.prog 31 2 := ⟨by kernel_rfl, by kernel_rfl⟩
instance : TSize Tryz.prog 31 2 := ⟨by kernel_rfl⟩
instance : TZero Tryz.prog 31 ([.int .i64 0, .int .i64 0]) := ⟨by kernel_rfl⟩
instance : TElem Tryz.prog 31 2 16 ([.int .i64 0, .int .i64 0]) := ⟨by kernel_rfl, by kernel_rfl⟩
instance : TPlaces Tryz.prog 31 [(0, 1), (1, 1)] := ⟨by kernel_rfl⟩
instance : TField Tryz.prog 31 0 0 := ⟨_, _, Tryz.underlying31, rfl, rfl, by kernel_rfl⟩
instance : TField Tryz.prog 31 1 1 := ⟨_, _, Tryz.underlying31, rfl, rfl, by kernel_rfl⟩
instance : TEq Tryz.prog 31 ([.int .i64 0, .int .i64 0]) := ⟨by kernel_rfl, by kernel_rfl, by kernel_rfl⟩
instance : TPlain Tryz.prog 32 := ⟨by kernel_rfl⟩
instance : TSize Tryz.prog 32 1 := ⟨by kernel_rfl⟩
instance : TZero Tryz.prog 32 ([.int .u32 0]) := ⟨by kernel_rfl⟩
instance : TElem Tryz.prog 32 1 4 ([.int .u32 0]) := ⟨by kernel_rfl, by kernel_rfl⟩
instance : TInt Tryz.prog 32 .u32 := ⟨Tryz.underlying32⟩
instance : TAgg Tryz.prog 33 8 := ⟨by kernel_rfl, by kernel_rfl⟩
instance : TSize Tryz.prog 33 8 := ⟨by kernel_rfl⟩
instance : TZero Tryz.prog 33 ([.int .i64 0, .int .i64 0, .int .i64 0, .int .i64 0, .int .i64 0, .int .i64 0, .int .i64 0, .int .u32 0]) := ⟨by kernel_rfl⟩
instance : TElem Tryz.prog 33 8 64 ([.int .i64 0, .int .i64 0, .int .i64 0, .int .i64 0, .int .i64 0, .int .i64 0, .int .i64 0, .int .u32 0]) := ⟨by kernel_rfl, by kernel_rfl⟩
instance : TPlaces Tryz.prog 33 [(0, 2), (2, 1), (3, 1), (4, 1), (5, 1), (6, 1), (7, 1)] := ⟨by kernel_rfl⟩
instance : TField Tryz.prog 33 0 0 := ⟨_, _, Tryz.underlying33, rfl, rfl, by kernel_rfl⟩
instance : TField Tryz.prog 33 1 2 := ⟨_, _, Tryz.underlying33, rfl, rfl, by kernel_rfl⟩
instance : TField Tryz.prog 33 2 3 := ⟨_, _, Tryz.underlying33, rfl, rfl, by kernel_rfl⟩
instance : TField Tryz.prog 33 3 4 := ⟨_, _, Tryz.underlying33, rfl, rfl, by kernel_rfl⟩
instance : TField Tryz.prog 33 4 5 := ⟨_, _, Tryz.underlying33, rfl, rfl, by kernel_rfl⟩
instance : TField Tryz.prog 33 5 6 := ⟨_, _, Tryz.underlying33, rfl, rfl, by kernel_rfl⟩
instance : TField Tryz.prog 33 6 7 := ⟨_, _, Tryz.underlying33, rfl, rfl, by kernel_rfl⟩
instance : TEq Tryz.prog 33 ([.int .i64 0, .int .i64 0, .int .i64 0, .int .i64 0, .int .i64 0, .int .i64 0, .int .i64 0, .int .u32 0]) := ⟨by kernel_rfl, by kernel_rfl, by kernel_rfl⟩
instance : TAgg Tryz.prog 34 8 := ⟨by kernel_rfl, by kernel_rfl⟩
instance : TSize Tryz.prog 34 8 := ⟨by kernel_rfl⟩
instance : TZero Tryz.prog 34 ([.int .i64 0, .int .i64 0, .int .i64 0, .int .i64 0, .int .i64 0, .int .i64 0, .int .i64 0, .int .u32 0]) := ⟨by kernel_rfl⟩
instance : TElem Tryz.prog 34 8 64 ([.int .i64 0, .int .i64 0, .int .i64 0, .int .i64 0, .int .i64 0, .int .i64 0, .int .i64 0, .int .u32 0]) := ⟨by kernel_rfl, by kernel_rfl⟩
instance : TPlaces Tryz.prog 34 [(0, 2), (2, 1), (3, 1), (4, 1), (5, 1), (6, 1), (7, 1)] := ⟨by kernel_rfl⟩
instance : TField Tryz.prog 34 0 0 := ⟨_, _, Tryz.underlying34, rfl, rfl, by kernel_rfl⟩
instance : TField Tryz.prog 34 1 2 := ⟨_, _, Tryz.underlying34, rfl, rfl, by kernel_rfl⟩
instance : TField Tryz.prog 34 2 3 := ⟨_, _, Tryz.underlying34, rfl, rfl, by kernel_rfl⟩
instance : TField Tryz.prog 34 3 4 := ⟨_, _, Tryz.underlying34, rfl, rfl, by kernel_rfl⟩
instance : TField Tryz.prog 34 4 5 := ⟨_, _, Tryz.underlying34, rfl, rfl, by kernel_rfl⟩
instance : TField Tryz.prog 34 5 6 := ⟨_, _, Tryz.underlying34, rfl, rfl, by kernel_rfl⟩
instance : TField Tryz.prog 34 6 7 := ⟨_, _, Tryz.underlying34, rfl, rfl, by kernel_rfl⟩
instance : TEq Tryz.prog 34 ([.int .i64 0, .int .i64 0, .int .i64 0, .int .i64 0, .int .i64 0, .int .i64 0, .int .i64 0, .int .u32 0]) := ⟨by kernel_rfl, by kernel_rfl, by kernel_rfl⟩
instance : TAgg Tryz.prog 35 5 := ⟨by kernel_rfl, by kernel_rfl⟩
instance : TSize Tryz.prog 35 5 := ⟨by kernel_rfl⟩
instance : TZero Tryz.prog 35 ([.int .i64 0, .int .i64 0, .int .i64 0, .int .i64 0, .int .i64 0]) := ⟨by kernel_rfl⟩
instance : TElem Tryz.prog 35 5 40 ([.int .i64 0, .int .i64 0, .int .i64 0, .int .i64 0, .int .i64 0]) := ⟨by kernel_rfl, by kernel_rfl⟩
instance : TPlaces Tryz.prog 35 [(0, 1), (1, 1), (2, 1), (3, 1), (4, 1)] := ⟨by kernel_rfl⟩
instance : TField Tryz.prog 35 0 0 := ⟨_, _, Tryz.underlying35, rfl, rfl, by kernel_rfl⟩
instance : TField Tryz.prog 35 1 1 := ⟨_, _, Tryz.underlying35, rfl, rfl, by kernel_rfl⟩
instance : TField Tryz.prog 35 2 2 := ⟨_, _, Tryz.underlying35, rfl, rfl, by kernel_rfl⟩
instance : TField Tryz.prog 35 3 3 := ⟨_, _, Tryz.underlying35, rfl, rfl, by kernel_rfl⟩
instance : TField Tryz.prog 35 4 4 := ⟨_, _, Tryz.underlying35, rfl, rfl, by kernel_rfl⟩
instance : TEq Tryz.prog 35 ([.int .i64 0, .int .i64 0, .int .i64 0, .int .i64 0, .int .i64 0]) := ⟨by kernel_rfl, by kernel_rfl, by kernel_rfl⟩
instance : TAgg Tryz.prog 36 5 := ⟨by kernel_rfl, by kernel_rfl⟩
instance : TSize Tryz.prog 36 5 := ⟨by kernel_rfl⟩
instance : TZero Tryz.prog 36 ([.int .i64 0, .int .i64 0, .int .i64 0, .int .i64 0, .int .i64 0]) := ⟨by kernel_rfl⟩
instance : TElem Tryz.prog 36 5 40 ([.int .i64 0, .int .i64 0, .int .i64 0, .int .i64 0, .int .i64 0]) := ⟨by kernel_rfl, by kernel_rfl⟩
instance : TPlaces Tryz.prog 36 [(0, 1), (1, 1), (2, 1), (3, 1), (4, 1)] := ⟨by kernel_rfl⟩
instance : TField Tryz.prog 36 0 0 := ⟨_, _, Tryz.underlying36, rfl, rfl, by kernel_rfl⟩
instance : TField Tryz.prog 36 1 1 := ⟨_, _, Tryz.underlying36, rfl, rfl, by kernel_rfl⟩
instance : TField Tryz.prog 36 2 2 := ⟨_, _, Tryz.underlying36, rfl, rfl, by kernel_rfl⟩
instance : TField Tryz.prog 36 3 3 := ⟨_, _, Tryz.underlying36, rfl, rfl, by kernel_rfl⟩
instance : TField Tryz.prog 36 4 4 := ⟨_, _, Tryz.underlying36, rfl, rfl, by kernel_rfl⟩
instance : TEq Tryz.prog 36 ([.int .i64 0, .int .i64 0, .int .i64 0, .int .i64 0, .int .i64 0]) := ⟨by kernel_rfl, by kernel_rfl, by kernel_rfl⟩
instance : TPlain Tryz.prog 37 := ⟨by kernel_rfl⟩
instance : TSize Tryz.prog 37 1 := ⟨by kernel_rfl⟩
instance : TAgg Tryz.prog 38 2 := ⟨by kernel_rfl, by kernel_rfl⟩
instance : TSize Tryz.prog 38 2 := ⟨by kernel_rfl⟩
instance : TZero Tryz.prog 38 ([.int .i64 0, .int .i64 0]) := ⟨by kernel_rfl⟩
instance : TElem Tryz.prog 38 2 16 ([.int .i64 0, .int .i64 0]) := ⟨by kernel_rfl, by kernel_rfl⟩
instance : TPlaces Tryz.prog 38 [(0, 1), (1, 1)] := ⟨by kernel_rfl⟩
instance : TField Tryz.prog 38 0 0 := ⟨_, _, Tryz.underlying38, rfl, rfl, by kernel_rfl⟩
instance : TField Tryz.prog 38 1 1 := ⟨_, _, Tryz.underlying38, rfl, rfl, by kernel_rfl⟩
instance : TEq Tryz.prog 38 ([.int .i64 0, .int .i64 0]) := ⟨by kernel_rfl, by kernel_rfl, by kernel_rfl⟩
instance : TAgg Tryz.prog 39 8 := ⟨by kernel_rfl, by kernel_rfl⟩
instance : TSize Tryz.prog 39 8 := ⟨by kernel_rfl⟩
instance : TZero Tryz.prog 39 ([.int .i64 0, .int .i64 0, .int .i64 0, .int .i64 0, .int .i64 0, .int .i64 0, .int .i64 0, .int .u32 0]) := ⟨by kernel_rfl⟩
instance : TElem Tryz.prog 39 8 64 ([.int .i64 0, .int .i64 0, .int .i64 0, .int .i64 0, .int .i64 0, .int .i64 0, .int .i64 0, .int .u32 0]) := ⟨by kernel_rfl, by kernel_rfl⟩
instance : TPlaces Tryz.prog 39 [(0, 2), (2, 1), (3, 1), (4, 1), (5, 1), (6, 1), (7, 1)] := ⟨by kernel_rfl⟩
instance : TField Tryz.prog 39 0 0 := ⟨_, _, Tryz.underlying39, rfl, rfl, by kernel_rfl⟩
instance : TField Tryz.prog 39 1 2 := ⟨_, _, Tryz.underlying39, rfl, rfl, by kernel_rfl⟩
instance : TField Tryz.prog 39 2 3 := ⟨_, _, Tryz.underlying39, rfl, rfl, by kernel_rfl⟩
instance : TField Tryz.prog 39 3 4 := ⟨_, _, Tryz.underlying39, rfl, rfl, by kernel_rfl⟩
instance : TField Tryz.prog 39 4 5 := ⟨_, _, Tryz.underlying39, rfl, rfl, by kernel_rfl⟩
instance : TField Tryz.prog 39 5 6 := ⟨_, _, Tryz.underlying39, rfl, rfl, by kernel_rfl⟩
instance : TField Tryz.prog 39 6 7 := ⟨_, _, Tryz.underlying39, rfl, rfl, by kernel_rfl⟩
instance : TEq Tryz.prog 39 ([.int .i64 0, .int .i64 0, .int .i64 0, .int .i64 0, .int .i64 0, .int .i64 0, .int .i64 0, .int .u32 0]) := ⟨by kernel_rfl, by kernel_rfl, by kernel_rfl⟩
instance : TAgg Tryz.prog 40 8 := ⟨by kernel_rfl, by kernel_rfl⟩
instance : TSize Tryz.prog 40 8 := ⟨by kernel_rfl⟩
instance : TZero Tryz.prog 40 ([.int .i64 0, .int .i64 0, .int .i64 0, .int .i64 0, .int .i64 0, .int .i64 0, .int .i64 0, .int .u32 0]) := ⟨by kernel_rfl⟩
instance : TElem Tryz.prog 40 8 64 ([.int .i64 0, .int .i64 0, .int .i64 0, .int .i64 0, .int .i64 0, .int .i64 0, .int .i64 0, .int .u32 0]) := ⟨by kernel_rfl, by kernel_rfl⟩
instance : TPlaces Tryz.prog 40 [(0, 2), (2, 1), (3, 1), (4, 1), (5, 1), (6, 1), (7, 1)] := ⟨by kernel_rfl⟩
instance : TField Tryz.prog 40 0 0 := ⟨_, _, Tryz.underlying40, rfl, rfl, by kernel_rfl⟩
instance : TField Tryz.prog 40 1 2 := ⟨_, _, Tryz.underlying40, rfl, rfl, by kernel_rfl⟩
instance : TField Tryz.prog 40 2 3 := ⟨_, _, Tryz.underlying40, rfl, rfl, by kernel_rfl⟩
instance : TField Tryz.prog 40 3 4 := ⟨_, _, Tryz.underlying40, rfl, rfl, by kernel_rfl⟩
instance : TField Tryz.prog 40 4 5 := ⟨_, _, Tryz.underlying40, rfl, rfl, by kernel_rfl⟩
instance : TField Tryz.prog 40 5 6 := ⟨_, _, Tryz.underlying40, rfl, rfl, by kernel_rfl⟩
instance : TField Tryz.prog 40 6 7 := ⟨_, _, Tryz.underlying40, rfl, rfl, by kernel_rfl⟩
instance : TEq Tryz.prog 40 ([.int .i64 0, .int .i64 0, .int .i64 0, .int .i64 0, .int .i64 0, .int .i64 0, .int .i64 0, .int .u32 0]) := ⟨by kernel_rfl, by kernel_rfl, by kernel_rfl⟩
instance : TPlain Tryz.prog 41 := ⟨by kernel_rfl⟩
instance : TSize Tryz.prog 41 1 := ⟨by kernel_rfl⟩
instance : TAgg Tryz.prog 42 2 := ⟨by kernel_rfl, by kernel_rfl⟩
instance : TSize Tryz.prog 42 2 := ⟨by kernel_rfl⟩
instance : TZero Tryz.prog 42 ([.int .i64 0, .int .i64 0]) := ⟨by kernel_rfl⟩
instance : TElem Tryz.prog 42 2 16 ([.int .i64 0, .int .i64 0]) := ⟨by kernel_rfl, by kernel_rfl⟩
instance : TPlaces Tryz.prog 42 [(0, 1), (1, 1)] := ⟨by kernel_rfl⟩
instance : TField Tryz.prog 42 0 0 := ⟨_, _, Tryz.underlying42, rfl, rfl, by kernel_rfl⟩
instance : TField Tryz.prog 42 1 1 := ⟨_, _, Tryz.underlying42, rfl, rfl, by kernel_rfl⟩
instance : TEq Tryz.prog 42 ([.int .i64 0, .int .i64 0]) := ⟨by kernel_rfl, by kernel_rfl, by kernel_rfl⟩
instance : TAgg Tryz.prog 43 2 := ⟨by kernel_rfl, by kernel_rfl⟩
instance : TSize Tryz.prog 43 2 := ⟨by kernel_rfl⟩
instance : TZero Tryz.prog 43 ([.int .i64 0, .int .i64 0]) := ⟨by kernel_rfl⟩
instance : TElem Tryz.prog 43 2 16 ([.int .i64 0, .int .i64 0]) := ⟨by kernel_rfl, by kernel_rfl⟩
instance : TPlaces Tryz.prog 43 [(0, 1), (1, 1)] := ⟨by kernel_rfl⟩
instance : TField Tryz.prog 43 0 0 := ⟨_, _, Tryz.underlying43, rfl, rfl, by kernel_rfl⟩
instance : TField Tryz.prog 43 1 1 := ⟨_, _, Tryz.underlying43, rfl, rfl, by kernel_rfl⟩
instance : TEq Tryz.prog 43 ([.int .i64 0, .int .i64 0]) := ⟨by kernel_rfl, by kernel_rfl, by kernel_rfl⟩
instance : TPlain Tryz.prog 44 := ⟨by kernel_rfl⟩
instance : TSize Tryz.prog 44 1 := ⟨by kernel_rfl⟩
instance : TZero Tryz.prog 44 ([.int .i64 0]) := ⟨by kernel_rfl⟩
instance : TElem Tryz.prog 44 1 8 ([.int .i64 0]) := ⟨by kernel_rfl, by kernel_rfl⟩
instance : TInt Tryz.prog 44 .i64 := ⟨Tryz.underlying44⟩
instance : TPlain Tryz.prog 46 := ⟨by kernel_rfl⟩
instance : TSize Tryz.prog 46 1 := ⟨by kernel_rfl⟩
instance : TPlain Tryz.prog 48 := ⟨by kernel_rfl⟩
instance : TSize Tryz.prog 48 1 := ⟨by kernel_rfl⟩
instance : TPlain Tryz.prog 49 := ⟨by kernel_rfl⟩
instance : TSize Tryz.prog 49 1 := ⟨by kernel_rfl⟩
instance : TPlain Tryz.prog 50 := ⟨by kernel_rfl⟩
instance : TSize Tryz.prog 50 1 := ⟨by kernel_rfl⟩
instance : TPlain Tryz.prog 52 := ⟨by kernel_rfl⟩
instance : TSize Tryz.prog 52 1 := ⟨by kernel_rfl⟩
instance : TPlain Tryz.prog 53 := ⟨by kernel_rfl⟩
instance : TSize Tryz.prog 53 1 := ⟨by kernel_rfl⟩
instance : TPlain Tryz.prog 55 := ⟨by kernel_rfl⟩
instance : TSize Tryz.prog 55 1 := ⟨by kernel_rfl⟩
instance : TPlain Tryz.prog 56 := ⟨by kernel_rfl⟩
instance : TSize Tryz.prog 56 1 := ⟨by kernel_rfl⟩
instance : TPlain Tryz.prog 57 := ⟨by kernel_rfl⟩
instance : TSize Tryz.prog 57 1 := ⟨by kernel_rfl⟩
instance : TZero Tryz.prog 57 ([.slice none 0 0]) := ⟨by kernel_rfl⟩
instance : TElem Tryz.prog 57 1 24 ([.slice none 0 0]) := ⟨by kernel_rfl, by kernel_rfl⟩
instance : TSlice Tryz.prog 57 3 := ⟨Tryz.underlying57⟩
instance : TAgg Tryz.prog 58 512 := ⟨by kernel_rfl, by kernel_rfl⟩
instance : TSize Tryz.prog 58 512 := ⟨by kernel_rfl⟩
instance : TZero Tryz.prog 58 (List.replicate 512 (.bool false)) := ⟨by kernel_rfl⟩
instance : TElem Tryz.prog 58 512 512 (List.replicate 512 (.bool false)) := ⟨by kernel_rfl, by kernel_rfl⟩
instance : TEq Tryz.prog 58 (List.replicate 512 (.bool false)) := ⟨by kernel_rfl, by kernel_rfl, by kernel_rfl⟩
instance : TArr Tryz.prog 58 512 4 1 := ⟨Tryz.underlying58, by kernel_rfl⟩
instance : TAgg Tryz.prog 59 513 := ⟨by kernel_rfl, by kernel_rfl⟩
instance : TSize Tryz.prog 59 513 := ⟨by kernel_rfl⟩
instance : TZero Tryz.prog 59 ([.int .i64 0] ++ (List.replicate 512 (.bool false))) := ⟨by kernel_rfl⟩
instance : TElem Tryz.prog 59 513 520 ([.int .i64 0] ++ (List.replicate 512 (.bool false))) := ⟨by kernel_rfl, by kernel_rfl⟩
instance : TPlaces Tryz.prog 59 [(0, 1), (1, 512)] := ⟨by kernel_rfl⟩
instance : TField Tryz.prog 59 0 0 := ⟨_, _, Tryz.underlying59, rfl, rfl, by kernel_rfl⟩
instance : TField Tryz.prog 59 1 1 := ⟨_, _, Tryz.underlying59, rfl, rfl, by kernel_rfl⟩
instance : TEq Tryz.prog 59 ([.int .i64 0] ++ (List.replicate 512 (.bool false))) := ⟨by kernel_rfl, by kernel_rfl, by kernel_rfl⟩
instance : TAgg Tryz.prog 60 513 := ⟨by kernel_rfl, by kernel_rfl⟩
instance : TSize Tryz.prog 60 513 := ⟨by kernel_rfl⟩
instance : TZero Tryz.prog 60 ([.int .i64 0] ++ (List.replicate 512 (.bool false))) := ⟨by kernel_rfl⟩
instance : TElem Tryz.prog 60 513 520 ([.int .i64 0] ++ (List.replicate 512 (.bool false))) := ⟨by kernel_rfl, by kernel_rfl⟩
instance : TPlaces Tryz.prog 60 [(0, 1), (1, 512)] := ⟨by kernel_rfl⟩
instance : TField Tryz.prog 60 0 0 := ⟨_, _, Tryz.underlying60, rfl, rfl, by kernel_rfl⟩
instance : TField Tryz.prog 60 1 1 := ⟨_, _, Tryz.underlying60, rfl, rfl, by kernel_rfl⟩
instance : TEq Tryz.prog 60 ([.int .i64 0] ++ (List.replicate 512 (.bool false))) := ⟨by kernel_rfl, by kernel_rfl, by kernel_rfl⟩
instance : TPlain Tryz.prog 61 := ⟨by kernel_rfl⟩
instance : TSize Tryz.prog 61 1 := ⟨by kernel_rfl⟩
instance : TPlain Tryz.prog 62 := ⟨by kernel_rfl⟩
instance : TSize Tryz.prog 62 1 := ⟨by kernel_rfl⟩
instance : TPlain Tryz.prog 63 := ⟨by kernel_rfl⟩
instance : TSize Tryz.prog 63 1 := ⟨by kernel_rfl⟩
instance : TPlain Tryz.prog 64 := ⟨by kernel_rfl⟩
instance : TSize Tryz.prog 64 1 := ⟨by kernel_rfl⟩
instance : TPlain Tryz.prog 66 := ⟨by kernel_rfl⟩
instance : TSize Tryz.prog 66 1 := ⟨by kernel_rfl⟩
instance : TPlain Tryz.prog 68 := ⟨by kernel_rfl⟩
instance : TSize Tryz.prog 68 1 := ⟨by kernel_rfl⟩
instance : TAgg Tryz.prog 69 256 := ⟨by kernel_rfl, by kernel_rfl⟩
instance : TSize Tryz.prog 69 256 := ⟨by kernel_rfl⟩
instance : TZero Tryz.prog 69 (List.replicate 256 (.int .u32 0)) := ⟨by kernel_rfl⟩
instance : TElem Tryz.prog 69 256 1024 (List.replicate 256 (.int .u32 0)) := ⟨by kernel_rfl, by kernel_rfl⟩
instance : TEq Tryz.prog 69 (List.replicate 256 (.int .u32 0)) := ⟨by kernel_rfl, by kernel_rfl, by kernel_rfl⟩
instance : TArr Tryz.prog 69 256 32 1 := ⟨Tryz.underlying69, by kernel_rfl⟩
instance : TAgg Tryz.prog 70 256 := ⟨by kernel_rfl, by kernel_rfl⟩
instance : TSize Tryz.prog 70 256 := ⟨by kernel_rfl⟩
instance : TZero Tryz.prog 70 (List.replicate 256 (.int .u32 0)) := ⟨by kernel_rfl⟩
instance : TElem Tryz.prog 70 256 1024 (List.replicate 256 (.int .u32 0)) := ⟨by kernel_rfl, by kernel_rfl⟩
instance : TEq Tryz.prog 70 (List.replicate 256 (.int .u32 0)) := ⟨by kernel_rfl, by kernel_rfl, by kernel_rfl⟩
instance : TArr Tryz.prog 70 256 32 1 := ⟨Tryz.underlying70, by kernel_rfl⟩
instance : TPlain Tryz.prog 71 := ⟨by kernel_rfl⟩
instance : TSize Tryz.prog 71 1 := ⟨by kernel_rfl⟩
instance : TPlain Tryz.prog 72 := ⟨by kernel_rfl⟩
instance : TSize Tryz.prog 72 1 := ⟨by kernel_rfl⟩
instance : TPlain Tryz.prog 74 := ⟨by kernel_rfl⟩
instance : TSize Tryz.prog 74 1 := ⟨by kernel_rfl⟩
instance : TPlain Tryz.prog 75 := ⟨by kernel_rfl⟩
instance : TSize Tryz.prog 75 1 := ⟨by kernel_rfl⟩
instance : TZero Tryz.prog 75 ([.pointer none]) := ⟨by kernel_rfl⟩
instance : TElem Tryz.prog 75 1 8 ([.pointer none]) := ⟨by kernel_rfl, by kernel_rfl⟩
instance : TPtr Tryz.prog 75 := ⟨by kernel_rfl⟩
instance : TPlain Tryz.prog 77 := ⟨by kernel_rfl⟩
instance : TSize Tryz.prog 77 1 := ⟨by kernel_rfl⟩
instance : TPlain Tryz.prog 78 := ⟨by kernel_rfl⟩
instance : TSize Tryz.prog 78 1 := ⟨by kernel_rfl⟩
instance : TZero Tryz.prog 78 ([.pointer none]) := ⟨by kernel_rfl⟩
instance : TElem Tryz.prog 78 1 8 ([.pointer none]) := ⟨by kernel_rfl, by kernel_rfl⟩
instance : TPtr Tryz.prog 78 := ⟨by kernel_rfl⟩
instance : TPlain Tryz.prog 80 := ⟨by kernel_rfl⟩
instance : TSize Tryz.prog 80 1 := ⟨by kernel_rfl⟩
instance : TPlain Tryz.prog 81 := ⟨by kernel_rfl⟩
instance : TSize Tryz.prog 81 1 := ⟨by kernel_rfl⟩
instance : TAgg Tryz.prog 82 5 := ⟨by kernel_rfl, by kernel_rfl⟩
instance : TSize Tryz.prog 82 5 := ⟨by kernel_rfl⟩
instance : TZero Tryz.prog 82 ([.int .u64 0, .int .i64 0, .int .i64 0, .int .i64 0, .int .i64 0]) := ⟨by kernel_rfl⟩
instance : TElem Tryz.prog 82 5 40 ([.int .u64 0, .int .i64 0, .int .i64 0, .int .i64 0, .int .i64 0]) := ⟨by kernel_rfl, by kernel_rfl⟩
instance : TPlaces Tryz.prog 82 [(0, 1), (1, 2), (3, 1), (4, 1)] := ⟨by kernel_rfl⟩
instance : TField Tryz.prog 82 0 0 := ⟨_, _, Tryz.underlying82, rfl, rfl, by kernel_rfl⟩
instance : TField Tryz.prog 82 1 1 := ⟨_, _, Tryz.underlying82, rfl, rfl, by kernel_rfl⟩
instance : TField Tryz.prog 82 2 3 := ⟨_, _, Tryz.underlying82, rfl, rfl, by kernel_rfl⟩
instance : TField Tryz.prog 82 3 4 := ⟨_, _, Tryz.underlying82, rfl, rfl, by kernel_rfl⟩
instance : TEq Tryz.prog 82 ([.int .u64 0, .int .i64 0, .int .i64 0, .int .i64 0, .int .i64 0]) := ⟨by kernel_rfl, by kernel_rfl, by kernel_rfl⟩
instance : TAgg Tryz.prog 83 5 := ⟨by kernel_rfl, by kernel_rfl⟩
instance : TSize Tryz.prog 83 5 := ⟨by kernel_rfl⟩
instance : TZero Tryz.prog 83 ([.int .u64 0, .int .i64 0, .int .i64 0, .int .i64 0, .int .i64 0]) := ⟨by kernel_rfl⟩
instance : TElem Tryz.prog 83 5 40 ([.int .u64 0, .int .i64 0, .int .i64 0, .int .i64 0, .int .i64 0]) := ⟨by kernel_rfl, by kernel_rfl⟩
instance : TPlaces Tryz.prog 83 [(0, 1), (1, 2), (3, 1), (4, 1)] := ⟨by kernel_rfl⟩
instance : TField Tryz.prog 83 0 0 := ⟨_, _, Tryz.underlying83, rfl, rfl, by kernel_rfl⟩
instance : TField Tryz.prog 83 1 1 := ⟨_, _, Tryz.underlying83, rfl, rfl, by kernel_rfl⟩
instance : TField Tryz.prog 83 2 3 := ⟨_, _, Tryz.underlying83, rfl, rfl, by kernel_rfl⟩
instance : TField Tryz.prog 83 3 4 := ⟨_, _, Tryz.underlying83, rfl, rfl, by kernel_rfl⟩
instance : TEq Tryz.prog 83 ([.int .u64 0, .int .i64 0, .int .i64 0, .int .i64 0, .int .i64 0]) := ⟨by kernel_rfl, by kernel_rfl, by kernel_rfl⟩
instance : TPlain Tryz.prog 84 := ⟨by kernel_rfl⟩
instance : TSize Tryz.prog 84 1 := ⟨by kernel_rfl⟩
instance : TPlain Tryz.prog 85 := ⟨by kernel_rfl⟩
instance : TSize Tryz.prog 85 1 := ⟨by kernel_rfl⟩
instance : TPlain Tryz.prog 86 := ⟨by kernel_rfl⟩
instance : TSize Tryz.prog 86 1 := ⟨by kernel_rfl⟩
instance : TZero Tryz.prog 86 ([.slice none 0 0]) := ⟨by kernel_rfl⟩
instance : TElem Tryz.prog 86 1 24 ([.slice none 0 0]) := ⟨by kernel_rfl, by kernel_rfl⟩
instance : TSlice Tryz.prog 86 5 := ⟨Tryz.underlying86⟩
instance : TAgg Tryz.prog 87 4 := ⟨by kernel_rfl, by kernel_rfl⟩
instance : TSize Tryz.prog 87 4 := ⟨by kernel_rfl⟩
instance : TZero Tryz.prog 87 ([.int .u8 0, .int .i64 0, .int .u64 0, .slice none 0 0]) := ⟨by kernel_rfl⟩
instance : TElem Tryz.prog 87 4 48 ([.int .u8 0, .int .i64 0, .int .u64 0, .slice none 0 0]) := ⟨by kernel_rfl, by kernel_rfl⟩
instance : TPlaces Tryz.prog 87 [(0, 1), (1, 1), (2, 1), (3, 1)] := ⟨by kernel_rfl⟩
instance : TField Tryz.prog 87 0 0 := ⟨_, _, Tryz.underlying87, rfl, rfl, by kernel_rfl⟩
instance : TField Tryz.prog 87 1 1 := ⟨_, _, Tryz.underlying87, rfl, rfl, by kernel_rfl⟩
instance : TField Tryz.prog 87 2 2 := ⟨_, _, Tryz.underlying87, rfl, rfl, by kernel_rfl⟩
instance : TField Tryz.prog 87 3 3 := ⟨_, _, Tryz.underlying87, rfl, rfl, by kernel_rfl⟩
instance : TAgg Tryz.prog 88 4 := ⟨by kernel_rfl, by kernel_rfl⟩
instance : TSize Tryz.prog 88 4 := ⟨by kernel_rfl⟩
instance : TZero Tryz.prog 88 ([.int .u8 0, .int .i64 0, .int .u64 0, .slice none 0 0]) := ⟨by kernel_rfl⟩
instance : TElem Tryz.prog 88 4 48 ([.int .u8 0, .int .i64 0, .int .u64 0, .slice none 0 0]) := ⟨by kernel_rfl, by kernel_rfl⟩
instance : TPlaces Tryz.prog 88 [(0, 1), (1, 1), (2, 1), (3, 1)] := ⟨by kernel_rfl⟩
instance : TField Tryz.prog 88 0 0 := ⟨_, _, Tryz.underlying88, rfl, rfl, by kernel_rfl⟩
instance : TField Tryz.prog 88 1 1 := ⟨_, _, Tryz.underlying88, rfl, rfl, by kernel_rfl⟩
instance : TField Tryz.prog 88 2 2 := ⟨_, _, Tryz.underlying88, rfl, rfl, by kernel_rfl⟩
instance : TField Tryz.prog 88 3 3 := ⟨_, _, Tryz.underlying88, rfl, rfl, by kernel_rfl⟩
instance : TPlain Tryz.prog 90 := ⟨by kernel_rfl⟩
instance : TSize Tryz.prog 90 1 := ⟨by kernel_rfl⟩
instance : TPlain Tryz.prog 91 := ⟨by kernel_rfl⟩
instance : TSize Tryz.prog 91 1 := ⟨by kernel_rfl⟩
instance : TPlain Tryz.prog 92 := ⟨by kernel_rfl⟩
instance : TSize Tryz.prog 92 1 := ⟨by kernel_rfl⟩
instance : TPlain Tryz.prog 93 := ⟨by kernel_rfl⟩
instance : TSize Tryz.prog 93 1 := ⟨by kernel_rfl⟩
instance : TPlain Tryz.prog 94 := ⟨by kernel_rfl⟩
instance : TSize Tryz.prog 94 1 := ⟨by kernel_rfl⟩
instance : TZero Tryz.prog 94 ([.slice none 0 0]) := ⟨by kernel_rfl⟩
instance : TElem Tryz.prog 94 1 24 ([.slice none 0 0]) := ⟨by kernel_rfl, by kernel_rfl⟩
instance : TSlice Tryz.prog 94 102 := ⟨Tryz.underlying94⟩
instance : TPlain Tryz.prog 96 := ⟨by kernel_rfl⟩
instance : TSize Tryz.prog 96 1 := ⟨by kernel_rfl⟩
instance : TPlain Tryz.prog 97 := ⟨by kernel_rfl⟩
instance : TSize Tryz.prog 97 1 := ⟨by kernel_rfl⟩
instance : TPlain Tryz.prog 98 := ⟨by kernel_rfl⟩
instance : TSize Tryz.prog 98 1 := ⟨by kernel_rfl⟩
instance : TPlain Tryz.prog 99 := ⟨by kernel_rfl⟩
instance : TSize Tryz.prog 99 1 := ⟨by kernel_rfl⟩
instance : TPlain Tryz.prog 100 := ⟨by kernel_rfl⟩
instance : TSize Tryz.prog 100 1 := ⟨by kernel_rfl⟩
instance : TZero Tryz.prog 100 ([.slice none 0 0]) := ⟨by kernel_rfl⟩
instance : TElem Tryz.prog 100 1 24 ([.slice none 0 0]) := ⟨by kernel_rfl, by kernel_rfl⟩
instance : TSlice Tryz.prog 100 105 := ⟨Tryz.underlying100⟩
instance : TAgg Tryz.prog 101 4 := ⟨by kernel_rfl, by kernel_rfl⟩
instance : TSize Tryz.prog 101 4 := ⟨by kernel_rfl⟩
instance : TZero Tryz.prog 101 ([.int .i64 0, .int .i64 0, .int .i64 0, .string ⟨#[]⟩]) := ⟨by kernel_rfl⟩
instance : TElem Tryz.prog 101 4 40 ([.int .i64 0, .int .i64 0, .int .i64 0, .string ⟨#[]⟩]) := ⟨by kernel_rfl, by kernel_rfl⟩
instance : TPlaces Tryz.prog 101 [(0, 1), (1, 1), (2, 1), (3, 1)] := ⟨by kernel_rfl⟩
instance : TField Tryz.prog 101 0 0 := ⟨_, _, Tryz.underlying101, rfl, rfl, by kernel_rfl⟩
instance : TField Tryz.prog 101 1 1 := ⟨_, _, Tryz.underlying101, rfl, rfl, by kernel_rfl⟩
instance : TField Tryz.prog 101 2 2 := ⟨_, _, Tryz.underlying101, rfl, rfl, by kernel_rfl⟩
instance : TField Tryz.prog 101 3 3 := ⟨_, _, Tryz.underlying101, rfl, rfl, by kernel_rfl⟩
instance : TEq Tryz.prog 101 ([.int .i64 0, .int .i64 0, .int .i64 0, .string ⟨#[]⟩]) := ⟨by kernel_rfl, by kernel_rfl, by kernel_rfl⟩
instance : TAgg Tryz.prog 102 4 := ⟨by kernel_rfl, by kernel_rfl⟩
instance : TSize Tryz.prog 102 4 := ⟨by kernel_rfl⟩
instance : TZero Tryz.prog 102 ([.int .i64 0, .int .i64 0, .int .i64 0, .string ⟨#[]⟩]) := ⟨by kernel_rfl⟩
instance : TElem Tryz.prog 102 4 40 ([.int .i64 0, .int .i64 0, .int .i64 0, .string ⟨#[]⟩]) := ⟨by kernel_rfl, by kernel_rfl⟩
instance : TPlaces Tryz.prog 102 [(0, 1), (1, 1), (2, 1), (3, 1)] := ⟨by kernel_rfl⟩
instance : TField Tryz.prog 102 0 0 := ⟨_, _, Tryz.underlying102, rfl, rfl, by kernel_rfl⟩
instance : TField Tryz.prog 102 1 1 := ⟨_, _, Tryz.underlying102, rfl, rfl, by kernel_rfl⟩
instance : TField Tryz.prog 102 2 2 := ⟨_, _, Tryz.underlying102, rfl, rfl, by kernel_rfl⟩
instance : TField Tryz.prog 102 3 3 := ⟨_, _, Tryz.underlying102, rfl, rfl, by kernel_rfl⟩
instance : TEq Tryz.prog 102 ([.int .i64 0, .int .i64 0, .int .i64 0, .string ⟨#[]⟩]) := ⟨by kernel_rfl, by kernel_rfl, by kernel_rfl⟩
instance : TPlain Tryz.prog 103 := ⟨by kernel_rfl⟩
instance : TSize Tryz.prog 103 1 := ⟨by kernel_rfl⟩
instance : TZero Tryz.prog 103 ([.slice none 0 0]) := ⟨by kernel_rfl⟩
instance : TElem Tryz.prog 103 1 24 ([.slice none 0 0]) := ⟨by kernel_rfl, by kernel_rfl⟩
instance : TSlice Tryz.prog 103 4 := ⟨Tryz.underlying103⟩
instance : TAgg Tryz.prog 104 7 := ⟨by kernel_rfl, by kernel_rfl⟩
instance : TSize Tryz.prog 104 7 := ⟨by kernel_rfl⟩
instance : TZero Tryz.prog 104 ([.int .i64 0, .int .i64 0, .int .i64 0, .int .i64 0, .int .i64 0, .slice none 0 0, .slice none 0 0]) := ⟨by kernel_rfl⟩
instance : TElem Tryz.prog 104 7 88 ([.int .i64 0, .int .i64 0, .int .i64 0, .int .i64 0, .int .i64 0, .slice none 0 0, .slice none 0 0]) := ⟨by kernel_rfl, by kernel_rfl⟩
instance : TPlaces Tryz.prog 104 [(0, 1), (1, 1), (2, 1), (3, 1), (4, 1), (5, 1), (6, 1)] := ⟨by kernel_rfl⟩
instance : TField Tryz.prog 104 0 0 := ⟨_, _, Tryz.underlying104, rfl, rfl, by kernel_rfl⟩
instance : TField Tryz.prog 104 1 1 := ⟨_, _, Tryz.underlying104, rfl, rfl, by kernel_rfl⟩
instance : TField Tryz.prog 104 2 2 := ⟨_, _, Tryz.underlying104, rfl, rfl, by kernel_rfl⟩
instance : TField Tryz.prog 104 3 3 := ⟨_, _, Tryz.underlying104, rfl, rfl, by kernel_rfl⟩
instance : TField Tryz.prog 104 4 4 := ⟨_, _, Tryz.underlying104, rfl, rfl, by kernel_rfl⟩
instance : TField Tryz.prog 104 5 5 := ⟨_, _, Tryz.underlying104, rfl, rfl, by kernel_rfl⟩
instance : TField Tryz.prog 104 6 6 := ⟨_, _, Tryz.underlying104, rfl, rfl, by kernel_rfl⟩
instance : TAgg Tryz.prog 105 7 := ⟨by kernel_rfl, by kernel_rfl⟩
instance : TSize Tryz.prog 105 7 := ⟨by kernel_rfl⟩
instance : TZero Tryz.prog 105 ([.int .i64 0, .int .i64 0, .int .i64 0, .int .i64 0, .int .i64 0, .slice none 0 0, .slice none 0 0]) := ⟨by kernel_rfl⟩
instance : TElem Tryz.prog 105 7 88 ([.int .i64 0, .int .i64 0, .int .i64 0, .int .i64 0, .int .i64 0, .slice none 0 0, .slice none 0 0]) := ⟨by kernel_rfl, by kernel_rfl⟩
instance : TPlaces Tryz.prog 105 [(0, 1), (1, 1), (2, 1), (3, 1), (4, 1), (5, 1), (6, 1)] := ⟨by kernel_rfl⟩
instance : TField Tryz.prog 105 0 0 := ⟨_, _, Tryz.underlying105, rfl, rfl, by kernel_rfl⟩
instance : TField Tryz.prog 105 1 1 := ⟨_, _, Tryz.underlying105, rfl, rfl, by kernel_rfl⟩
instance : TField Tryz.prog 105 2 2 := ⟨_, _, Tryz.underlying105, rfl, rfl, by kernel_rfl⟩
instance : TField Tryz.prog 105 3 3 := ⟨_, _, Tryz.underlying105, rfl, rfl, by kernel_rfl⟩
instance : TField Tryz.prog 105 4 4 := ⟨_, _, Tryz.underlying105, rfl, rfl, by kernel_rfl⟩
instance : TField Tryz.prog 105 5 5 := ⟨_, _, Tryz.underlying105, rfl, rfl, by kernel_rfl⟩
instance : TField Tryz.prog 105 6 6 := ⟨_, _, Tryz.underlying105, rfl, rfl, by kernel_rfl⟩
instance : TPlain Tryz.prog 106 := ⟨by kernel_rfl⟩
instance : TSize Tryz.prog 106 1 := ⟨by kernel_rfl⟩
instance : TPlain Tryz.prog 107 := ⟨by kernel_rfl⟩
instance : TSize Tryz.prog 107 1 := ⟨by kernel_rfl⟩
instance : TPlain Tryz.prog 108 := ⟨by kernel_rfl⟩
instance : TSize Tryz.prog 108 1 := ⟨by kernel_rfl⟩
instance : TPlain Tryz.prog 109 := ⟨by kernel_rfl⟩
instance : TSize Tryz.prog 109 1 := ⟨by kernel_rfl⟩
instance : TZero Tryz.prog 109 ([.slice none 0 0]) := ⟨by kernel_rfl⟩
instance : TElem Tryz.prog 109 1 24 ([.slice none 0 0]) := ⟨by kernel_rfl, by kernel_rfl⟩
instance : TSlice Tryz.prog 109 189 := ⟨Tryz.underlying109⟩
instance : TPlain Tryz.prog 110 := ⟨by kernel_rfl⟩
instance : TSize Tryz.prog 110 1 := ⟨by kernel_rfl⟩
instance : TPlain Tryz.prog 111 := ⟨by kernel_rfl⟩
instance : TSize Tryz.prog 111 1 := ⟨by kernel_rfl⟩
instance : TPlain Tryz.prog 113 := ⟨by kernel_rfl⟩
instance : TSize Tryz.prog 113 1 := ⟨by kernel_rfl⟩
instance : TPlain Tryz.prog 114 := ⟨by kernel_rfl⟩
instance : TSize Tryz.prog 114 1 := ⟨by kernel_rfl⟩
instance : TPlain Tryz.prog 116 := ⟨by kernel_rfl⟩
instance : TSize Tryz.prog 116 1 := ⟨by kernel_rfl⟩
instance : TPlain Tryz.prog 117 := ⟨by kernel_rfl⟩
instance : TSize Tryz.prog 117 1 := ⟨by kernel_rfl⟩
instance : TPlain Tryz.prog 118 := ⟨by kernel_rfl⟩
instance : TSize Tryz.prog 118 1 := ⟨by kernel_rfl⟩
instance : TPlain Tryz.prog 119 := ⟨by kernel_rfl⟩
instance : TSize Tryz.prog 119 1 := ⟨by kernel_rfl⟩
instance : TPlain Tryz.prog 120 := ⟨by kernel_rfl⟩
instance : TSize Tryz.prog 120 1 := ⟨by kernel_rfl⟩
instance : TPlain Tryz.prog 121 := ⟨by kernel_rfl⟩
instance : TSize Tryz.prog 121 1 := ⟨by kernel_rfl⟩
instance : TPlain Tryz.prog 122 := ⟨by kernel_rfl⟩
instance : TSize Tryz.prog 122 1 := ⟨by kernel_rfl⟩
instance : TPlain Tryz.prog 123 := ⟨by kernel_rfl⟩
instance : TSize Tryz.prog 123 1 := ⟨by kernel_rfl⟩
instance : TZero Tryz.prog 123 ([.slice none 0 0]) := ⟨by kernel_rfl⟩
instance : TElem Tryz.prog 123 1 24 ([.slice none 0 0]) := ⟨by kernel_rfl, by kernel_rfl⟩
instance : TSlice Tryz.prog 123 38 := ⟨Tryz.underlying123⟩
instance : TAgg Tryz.prog 124 4 := ⟨by kernel_rfl, by kernel_rfl⟩
instance : TSize Tryz.prog 124 4 := ⟨by kernel_rfl⟩
instance : TZero Tryz.prog 124 ([.bool false, .slice none 0 0, .slice none 0 0, .slice none 0 0]) := ⟨by kernel_rfl⟩
instance : TElem Tryz.prog 124 4 80 ([.bool false, .slice none 0 0, .slice none 0 0, .slice none 0 0]) := ⟨by kernel_rfl, by kernel_rfl⟩
instance : TPlaces Tryz.prog 124 [(0, 1), (1, 1), (2, 1), (3, 1)] := ⟨by kernel_rfl⟩
instance : TField Tryz.prog 124 0 0 := ⟨_, _, Tryz.underlying124, rfl, rfl, by kernel_rfl⟩
instance : TField Tryz.prog 124 1 1 := ⟨_, _, Tryz.underlying124, rfl, rfl, by kernel_rfl⟩
instance : TField Tryz.prog 124 2 2 := ⟨_, _, Tryz.underlying124, rfl, rfl, by kernel_rfl⟩
instance : TField Tryz.prog 124 3 3 := ⟨_, _, Tryz.underlying124, rfl, rfl, by kernel_rfl⟩
instance : TAgg Tryz.prog 125 4 := ⟨by kernel_rfl, by kernel_rfl⟩
instance : TSize Tryz.prog 125 4 := ⟨by kernel_rfl⟩
instance : TZero Tryz.prog 125 ([.bool false, .slice none 0 0, .slice none 0 0, .slice none 0 0]) := ⟨by kernel_rfl⟩
instance : TElem Tryz.prog 125 4 80 ([.bool false, .slice none 0 0, .slice none 0 0, .slice none 0 0]) := ⟨by kernel_rfl, by kernel_rfl⟩
instance : TPlaces Tryz.prog 125 [(0, 1), (1, 1), (2, 1), (3, 1)] := ⟨by kernel_rfl⟩
instance : TField Tryz.prog 125 0 0 := ⟨_, _, Tryz.underlying125, rfl, rfl, by kernel_rfl⟩
instance : TField Tryz.prog 125 1 1 := ⟨_, _, Tryz.underlying125, rfl, rfl, by kernel_rfl⟩
instance : TField Tryz.prog 125 2 2 := ⟨_, _, Tryz.underlying125, rfl, rfl, by kernel_rfl⟩
instance : TField Tryz.prog 125 3 3 := ⟨_, _, Tryz.underlying125, rfl, rfl, by kernel_rfl⟩
instance : TPlain Tryz.prog 126 := ⟨by kernel_rfl⟩
instance : TSize Tryz.prog 126 1 := ⟨by kernel_rfl⟩
instance : TPlain Tryz.prog 127 := ⟨by kernel_rfl⟩
instance : TSize Tryz.prog 127 1 := ⟨by kernel_rfl⟩
instance : TPlain Tryz.prog 128 := ⟨by kernel_rfl⟩
instance : TSize Tryz.prog 128 1 := ⟨by kernel_rfl⟩
instance : TZero Tryz.prog 128 ([.slice none 0 0]) := ⟨by kernel_rfl⟩
instance : TElem Tryz.prog 128 1 24 ([.slice none 0 0]) := ⟨by kernel_rfl, by kernel_rfl⟩
instance : TSlice Tryz.prog 128 125 := ⟨Tryz.underlying128⟩
instance : TPlain Tryz.prog 129 := ⟨by kernel_rfl⟩
instance : TSize Tryz.prog 129 1 := ⟨by kernel_rfl⟩
instance : TPlain Tryz.prog 130 := ⟨by kernel_rfl⟩
instance : TSize Tryz.prog 130 1 := ⟨by kernel_rfl⟩
instance : TPlain Tryz.prog 131 := ⟨by kernel_rfl⟩
instance : TSize Tryz.prog 131 1 := ⟨by kernel_rfl⟩
instance : TPlain Tryz.prog 132 := ⟨by kernel_rfl⟩
instance : TSize Tryz.prog 132 1 := ⟨by kernel_rfl⟩
instance : TPlain Tryz.prog 133 := ⟨by kernel_rfl⟩
instance : TSize Tryz.prog 133 1 := ⟨by kernel_rfl⟩
instance : TPlain Tryz.prog 134 := ⟨by kernel_rfl⟩
instance : TSize Tryz.prog 134 1 := ⟨by kernel_rfl⟩
instance : TPlain Tryz.prog 135 := ⟨by kernel_rfl⟩
instance : TSize Tryz.prog 135 1 := ⟨by kernel_rfl⟩
instance : TPlain Tryz.prog 136 := ⟨by kernel_rfl⟩
instance : TSize Tryz.prog 136 1 := ⟨by kernel_rfl⟩
instance : TPlain Tryz.prog 137 := ⟨by kernel_rfl⟩
instance : TSize Tryz.prog 137 1 := ⟨by kernel_rfl⟩
instance : TPlain Tryz.prog 139 := ⟨by kernel_rfl⟩
instance : TSize Tryz.prog 139 1 := ⟨by kernel_rfl⟩
instance : TPlain Tryz.prog 140 := ⟨by kernel_rfl⟩
instance : TSize Tryz.prog 140 1 := ⟨by kernel_rfl⟩
instance : TPlain Tryz.prog 141 := ⟨by kernel_rfl⟩
instance : TSize Tryz.prog 141 1 := ⟨by kernel_rfl⟩
instance : TPlain Tryz.prog 142 := ⟨by kernel_rfl⟩
instance : TSize Tryz.prog 142 1 := ⟨by kernel_rfl⟩
instance : TPlain Tryz.prog 143 := ⟨by kernel_rfl⟩
instance : TSize Tryz.prog 143 1 := ⟨by kernel_rfl⟩
instance : TPlain Tryz.prog 144 := ⟨by kernel_rfl⟩
instance : TSize Tryz.prog 144 1 := ⟨by kernel_rfl⟩
instance : TAgg Tryz.prog 145 1284 := ⟨by kernel_rfl, by kernel_rfl⟩
instance : TSize Tryz.prog 145 1284 := ⟨by kernel_rfl⟩
instance : TZero Tryz.prog 145 (List.replicate 256 (.int .u32 0) ++ ([.pointer none, .int .u64 0, .int .i64 0] ++ (List.replicate 512 (.bool false) ++ ([.int .i64 0] ++ (List.replicate 512 (.bool false)))))) := ⟨by kernel_rfl⟩
instance : TElem Tryz.prog 145 1284 2080 (List.replicate 256 (.int .u32 0) ++ ([.pointer none, .int .u64 0, .int .i64 0] ++ (List.replicate 512 (.bool false) ++ ([.int .i64 0] ++ (List.replicate 512 (.bool false)))))) := ⟨by kernel_rfl, by kernel_rfl⟩
instance : TPlaces Tryz.prog 145 [(0, 256), (256, 1), (257, 1), (258, 513), (771, 513)] := ⟨by kernel_rfl⟩
instance : TField Tryz.prog 145 0 0 := ⟨_, _, Tryz.underlying145, rfl, rfl, by kernel_rfl⟩
instance : TField Tryz.prog 145 1 256 := ⟨_, _, Tryz.underlying145, rfl, rfl, by kernel_rfl⟩
instance : TField Tryz.prog 145 2 257 := ⟨_, _, Tryz.underlying145, rfl, rfl, by kernel_rfl⟩
instance : TField Tryz.prog 145 3 258 := ⟨_, _, Tryz.underlying145, rfl, rfl, by kernel_rfl⟩
instance : TField Tryz.prog 145 4 771 := ⟨_, _, Tryz.underlying145, rfl, rfl, by kernel_rfl⟩
instance : TAgg Tryz.prog 146 1284 := ⟨by kernel_rfl, by kernel_rfl⟩
instance : TSize Tryz.prog 146 1284 := ⟨by kernel_rfl⟩
instance : TZero Tryz.prog 146 (List.replicate 256 (.int .u32 0) ++ ([.pointer none, .int .u64 0, .int .i64 0] ++ (List.replicate 512 (.bool false) ++ ([.int .i64 0] ++ (List.replicate 512 (.bool false)))))) := ⟨by kernel_rfl⟩
instance : TElem Tryz.prog 146 1284 2080 (List.replicate 256 (.int .u32 0) ++ ([.pointer none, .int .u64 0, .int .i64 0] ++ (List.replicate 512 (.bool false) ++ ([.int .i64 0] ++ (List.replicate 512 (.bool false)))))) := ⟨by kernel_rfl, by kernel_rfl⟩
instance : TPlaces Tryz.prog 146 [(0, 256), (256, 1), (257, 1), (258, 513), (771, 513)] := ⟨by kernel_rfl⟩
instance : TField Tryz.prog 146 0 0 := ⟨_, _, Tryz.underlying146, rfl, rfl, by kernel_rfl⟩
instance : TField Tryz.prog 146 1 256 := ⟨_, _, Tryz.underlying146, rfl, rfl, by kernel_rfl⟩
instance : TField Tryz.prog 146 2 257 := ⟨_, _, Tryz.underlying146, rfl, rfl, by kernel_rfl⟩
instance : TField Tryz.prog 146 3 258 := ⟨_, _, Tryz.underlying146, rfl, rfl, by kernel_rfl⟩
instance : TField Tryz.prog 146 4 771 := ⟨_, _, Tryz.underlying146, rfl, rfl, by kernel_rfl⟩
instance : TPlain Tryz.prog 148 := ⟨by kernel_rfl⟩
instance : TSize Tryz.prog 148 1 := ⟨by kernel_rfl⟩
instance : TPlain Tryz.prog 149 := ⟨by kernel_rfl⟩
instance : TSize Tryz.prog 149 1 := ⟨by kernel_rfl⟩
instance : TPlain Tryz.prog 150 := ⟨by kernel_rfl⟩
instance : TSize Tryz.prog 150 1 := ⟨by kernel_rfl⟩
instance : TZero Tryz.prog 150 ([.int .u64 0]) := ⟨by kernel_rfl⟩
instance : TElem Tryz.prog 150 1 8 ([.int .u64 0]) := ⟨by kernel_rfl, by kernel_rfl⟩
instance : TInt Tryz.prog 150 .u64 := ⟨Tryz.underlying150⟩
instance : TPlain Tryz.prog 151 := ⟨by kernel_rfl⟩
instance : TSize Tryz.prog 151 1 := ⟨by kernel_rfl⟩
instance : TZero Tryz.prog 151 ([.slice none 0 0]) := ⟨by kernel_rfl⟩
instance : TElem Tryz.prog 151 1 24 ([.slice none 0 0]) := ⟨by kernel_rfl, by kernel_rfl⟩
instance : TSlice Tryz.prog 151 186 := ⟨Tryz.underlying151⟩
instance : TAgg Tryz.prog 152 4 := ⟨by kernel_rfl, by kernel_rfl⟩
instance : TSize Tryz.prog 152 4 := ⟨by kernel_rfl⟩
instance : TZero Tryz.prog 152 ([.slice none 0 0, .slice none 0 0, .bool false, .int .i64 0]) := ⟨by kernel_rfl⟩
instance : TElem Tryz.prog 152 4 64 ([.slice none 0 0, .slice none 0 0, .bool false, .int .i64 0]) := ⟨by kernel_rfl, by kernel_rfl⟩
instance : TPlaces Tryz.prog 152 [(0, 1), (1, 1), (2, 1), (3, 1)] := ⟨by kernel_rfl⟩
instance : TField Tryz.prog 152 0 0 := ⟨_, _, Tryz.underlying152, rfl, rfl, by kernel_rfl⟩
instance : TField Tryz.prog 152 1 1 := ⟨_, _, Tryz.underlying152, rfl, rfl, by kernel_rfl⟩
instance : TField Tryz.prog 152 2 2 := ⟨_, _, Tryz.underlying152, rfl, rfl, by kernel_rfl⟩
instance : TField Tryz.prog 152 3 3 := ⟨_, _, Tryz.underlying152, rfl, rfl, by kernel_rfl⟩
instance : TAgg Tryz.prog 153 4 := ⟨by kernel_rfl, by kernel_rfl⟩
instance : TSize Tryz.prog 153 4 := ⟨by kernel_rfl⟩
instance : TZero Tryz.prog 153 ([.slice none 0 0, .slice none 0 0, .bool false, .int .i64 0]) := ⟨by kernel_rfl⟩
instance : TElem Tryz.prog 153 4 64 ([.slice none 0 0, .slice none 0 0, .bool false, .int .i64 0]) := ⟨by kernel_rfl, by kernel_rfl⟩
instance : TPlaces Tryz.prog 153 [(0, 1), (1, 1), (2, 1), (3, 1)] := ⟨by kernel_rfl⟩
instance : TField Tryz.prog 153 0 0 := ⟨_, _, Tryz.underlying153, rfl, rfl, by kernel_rfl⟩
instance : TField Tryz.prog 153 1 1 := ⟨_, _, Tryz.underlying153, rfl, rfl, by kernel_rfl⟩
instance : TField Tryz.prog 153 2 2 := ⟨_, _, Tryz.underlying153, rfl, rfl, by kernel_rfl⟩
instance : TField Tryz.prog 153 3 3 := ⟨_, _, Tryz.underlying153, rfl, rfl, by kernel_rfl⟩
instance : TPlain Tryz.prog 155 := ⟨by kernel_rfl⟩
instance : TSize Tryz.prog 155 1 := ⟨by kernel_rfl⟩
instance : TPlain Tryz.prog 156 := ⟨by kernel_rfl⟩
instance : TSize Tryz.prog 156 1 := ⟨by kernel_rfl⟩
instance : TPlain Tryz.prog 157 := ⟨by kernel_rfl⟩
instance : TSize Tryz.prog 157 1 := ⟨by kernel_rfl⟩
instance : TPlain Tryz.prog 158 := ⟨by kernel_rfl⟩
instance : TSize Tryz.prog 158 1 := ⟨by kernel_rfl⟩
instance : TPlain Tryz.prog 159 := ⟨by kernel_rfl⟩
instance : TSize Tryz.prog 159 1 := ⟨by kernel_rfl⟩
instance : TAgg Tryz.prog 160 778 := ⟨by kernel_rfl, by kernel_rfl⟩
instance : TSize Tryz.prog 160 778 := ⟨by kernel_rfl⟩
instance : TZero Tryz.prog 160 (List.replicate 256 (.int .u32 0) ++ ([.pointer none, .int .u64 0, .int .i64 0, .int .i64 0, .int .i64 0, .int .i64 0, .int .i64 0] ++ (List.replicate 512 (.bool false) ++ ([.pointer none, .bool false, .bool false])))) := ⟨by kernel_rfl⟩
instance : TElem Tryz.prog 160 778 1608 (List.replicate 256 (.int .u32 0) ++ ([.pointer none, .int .u64 0, .int .i64 0, .int .i64 0, .int .i64 0, .int .i64 0, .int .i64 0] ++ (List.replicate 512 (.bool false) ++ ([.pointer none, .bool false, .bool false])))) := ⟨by kernel_rfl, by kernel_rfl⟩
instance : TPlaces Tryz.prog 160 [(0, 256), (256, 1), (257, 5), (262, 513), (775, 1), (776, 1), (777, 1)] := ⟨by kernel_rfl⟩
instance : TField Tryz.prog 160 0 0 := ⟨_, _, Tryz.underlying160, rfl, rfl, by kernel_rfl⟩
instance : TField Tryz.prog 160 1 256 := ⟨_, _, Tryz.underlying160, rfl, rfl, by kernel_rfl⟩
instance : TField Tryz.prog 160 2 257 := ⟨_, _, Tryz.underlying160, rfl, rfl, by kernel_rfl⟩
instance : TField Tryz.prog 160 3 262 := ⟨_, _, Tryz.underlying160, rfl, rfl, by kernel_rfl⟩
instance : TField Tryz.prog 160 4 775 := ⟨_, _, Tryz.underlying160, rfl, rfl, by kernel_rfl⟩
instance : TField Tryz.prog 160 5 776 := ⟨_, _, Tryz.underlying160, rfl, rfl, by kernel_rfl⟩
instance : TField Tryz.prog 160 6 777 := ⟨_, _, Tryz.underlying160, rfl, rfl, by kernel_rfl⟩
instance : TAgg Tryz.prog 161 778 := ⟨by kernel_rfl, by kernel_rfl⟩
instance : TSize Tryz.prog 161 778 := ⟨by kernel_rfl⟩
instance : TZero Tryz.prog 161 (List.replicate 256 (.int .u32 0) ++ ([.pointer none, .int .u64 0, .int .i64 0, .int .i64 0, .int .i64 0, .int .i64 0, .int .i64 0] ++ (List.replicate 512 (.bool false) ++ ([.pointer none, .bool false, .bool false])))) := ⟨by kernel_rfl⟩
instance : TElem Tryz.prog 161 778 1608 (List.replicate 256 (.int .u32 0) ++ ([.pointer none, .int .u64 0, .int .i64 0, .int .i64 0, .int .i64 0, .int .i64 0, .int .i64 0] ++ (List.replicate 512 (.bool false) ++ ([.pointer none, .bool false, .bool false])))) := ⟨by kernel_rfl, by kernel_rfl⟩
instance : TPlaces Tryz.prog 161 [(0, 256), (256, 1), (257, 5), (262, 513), (775, 1), (776, 1), (777, 1)] := ⟨by kernel_rfl⟩
instance : TField Tryz.prog 161 0 0 := ⟨_, _, Tryz.underlying161, rfl, rfl, by kernel_rfl⟩
instance : TField Tryz.prog 161 1 256 := ⟨_, _, Tryz.underlying161, rfl, rfl, by kernel_rfl⟩
instance : TField Tryz.prog 161 2 257 := ⟨_, _, Tryz.underlying161, rfl, rfl, by kernel_rfl⟩
instance : TField Tryz.prog 161 3 262 := ⟨_, _, Tryz.underlying161, rfl, rfl, by kernel_rfl⟩
instance : TField Tryz.prog 161 4 775 := ⟨_, _, Tryz.underlying161, rfl, rfl, by kernel_rfl⟩
instance : TField Tryz.prog 161 5 776 := ⟨_, _, Tryz.underlying161, rfl, rfl, by kernel_rfl⟩
instance : TField Tryz.prog 161 6 777 := ⟨_, _, Tryz.underlying161, rfl, rfl, by kernel_rfl⟩
instance : TAgg Tryz.prog 162 5 := ⟨by kernel_rfl, by kernel_rfl⟩
instance : TSize Tryz.prog 162 5 := ⟨by kernel_rfl⟩
instance : TZero Tryz.prog 162 ([.pointer none, .pointer none, .int .i64 0, .int .i64 0, .bool false]) := ⟨by kernel_rfl⟩
instance : TElem Tryz.prog 162 5 40 ([.pointer none, .pointer none, .int .i64 0, .int .i64 0, .bool false]) := ⟨by kernel_rfl, by kernel_rfl⟩
instance : TPlaces Tryz.prog 162 [(0, 1), (1, 1), (2, 2), (4, 1)] := ⟨by kernel_rfl⟩
instance : TField Tryz.prog 162 0 0 := ⟨_, _, Tryz.underlying162, rfl, rfl, by kernel_rfl⟩
instance : TField Tryz.prog 162 1 1 := ⟨_, _, Tryz.underlying162, rfl, rfl, by kernel_rfl⟩
instance : TField Tryz.prog 162 2 2 := ⟨_, _, Tryz.underlying162, rfl, rfl, by kernel_rfl⟩
instance : TField Tryz.prog 162 3 4 := ⟨_, _, Tryz.underlying162, rfl, rfl, by kernel_rfl⟩
instance : TAgg Tryz.prog 163 5 := ⟨by kernel_rfl, by kernel_rfl⟩
instance : TSize Tryz.prog 163 5 := ⟨by kernel_rfl⟩
instance : TZero Tryz.prog 163 ([.pointer none, .pointer none, .int .i64 0, .int .i64 0, .bool false]) := ⟨by kernel_rfl⟩
instance : TElem Tryz.prog 163 5 40 ([.pointer none, .pointer none, .int .i64 0, .int .i64 0, .bool false]) := ⟨by kernel_rfl, by kernel_rfl⟩
instance : TPlaces Tryz.prog 163 [(0, 1), (1, 1), (2, 2), (4, 1)] := ⟨by kernel_rfl⟩
instance : TField Tryz.prog 163 0 0 := ⟨_, _, Tryz.underlying163, rfl, rfl, by kernel_rfl⟩
instance : TField Tryz.prog 163 1 1 := ⟨_, _, Tryz.underlying163, rfl, rfl, by kernel_rfl⟩
instance : TField Tryz.prog 163 2 2 := ⟨_, _, Tryz.underlying163, rfl, rfl, by kernel_rfl⟩
instance : TField Tryz.prog 163 3 4 := ⟨_, _, Tryz.underlying163, rfl, rfl, by kernel_rfl⟩
instance : TPlain Tryz.prog 165 := ⟨by kernel_rfl⟩
instance : TSize Tryz.prog 165 1 := ⟨by kernel_rfl⟩
instance : TPlain Tryz.prog 166 := ⟨by kernel_rfl⟩
instance : TSize Tryz.prog 166 1 := ⟨by kernel_rfl⟩
instance : TPlain Tryz.prog 168 := ⟨by kernel_rfl⟩
instance : TSize Tryz.prog 168 1 := ⟨by kernel_rfl⟩
instance : TPlain Tryz.prog 169 := ⟨by kernel_rfl⟩
instance : TSize Tryz.prog 169 1 := ⟨by kernel_rfl⟩
instance : TPlain Tryz.prog 171 := ⟨by kernel_rfl⟩
instance : TSize Tryz.prog 171 1 := ⟨by kernel_rfl⟩
instance : TAgg Tryz.prog 172 4 := ⟨by kernel_rfl, by kernel_rfl⟩
instance : TSize Tryz.prog 172 4 := ⟨by kernel_rfl⟩
instance : TZero Tryz.prog 172 ([.int .u8 0, .int .i64 0, .int .u64 0, .slice none 0 0]) := ⟨by kernel_rfl⟩
instance : TElem Tryz.prog 172 4 48 ([.int .u8 0, .int .i64 0, .int .u64 0, .slice none 0 0]) := ⟨by kernel_rfl, by kernel_rfl⟩
instance : TPlaces Tryz.prog 172 [(0, 1), (1, 1), (2, 1), (3, 1)] := ⟨by kernel_rfl⟩
instance : TField Tryz.prog 172 0 0 := ⟨_, _, Tryz.underlying172, rfl, rfl, by kernel_rfl⟩
instance : TField Tryz.prog 172 1 1 := ⟨_, _, Tryz.underlying172, rfl, rfl, by kernel_rfl⟩
instance : TField Tryz.prog 172 2 2 := ⟨_, _, Tryz.underlying172, rfl, rfl, by kernel_rfl⟩
instance : TField Tryz.prog 172 3 3 := ⟨_, _, Tryz.underlying172, rfl, rfl, by kernel_rfl⟩
instance : TPlain Tryz.prog 174 := ⟨by kernel_rfl⟩
instance : TSize Tryz.prog 174 1 := ⟨by kernel_rfl⟩
instance : TPlain Tryz.prog 175 := ⟨by kernel_rfl⟩
instance : TSize Tryz.prog 175 1 := ⟨by kernel_rfl⟩
instance : TPlain Tryz.prog 176 := ⟨by kernel_rfl⟩
instance : TSize Tryz.prog 176 1 := ⟨by kernel_rfl⟩
instance : TPlain Tryz.prog 177 := ⟨by kernel_rfl⟩
instance : TSize Tryz.prog 177 1 := ⟨by kernel_rfl⟩
instance : TPlain Tryz.prog 178 := ⟨by kernel_rfl⟩
instance : TSize Tryz.prog 178 1 := ⟨by kernel_rfl⟩
instance : TPlain Tryz.prog 179 := ⟨by kernel_rfl⟩
instance : TSize Tryz.prog 179 1 := ⟨by kernel_rfl⟩
instance : TPlain Tryz.prog 180 := ⟨by kernel_rfl⟩
instance : TSize Tryz.prog 180 1 := ⟨by kernel_rfl⟩
instance : TPlain Tryz.prog 181 := ⟨by kernel_rfl⟩
instance : TSize Tryz.prog 181 1 := ⟨by kernel_rfl⟩
instance : TPlain Tryz.prog 182 := ⟨by kernel_rfl⟩
instance : TSize Tryz.prog 182 1 := ⟨by kernel_rfl⟩
instance : TPlain Tryz.prog 184 := ⟨by kernel_rfl⟩
instance : TSize Tryz.prog 184 1 := ⟨by kernel_rfl⟩
instance : TAgg Tryz.prog 185 2 := ⟨by kernel_rfl, by kernel_rfl⟩
instance : TSize Tryz.prog 185 2 := ⟨by kernel_rfl⟩
instance : TZero Tryz.prog 185 ([.int .i64 0, .slice none 0 0]) := ⟨by kernel_rfl⟩
instance : TElem Tryz.prog 185 2 32 ([.int .i64 0, .slice none 0 0]) := ⟨by kernel_rfl, by kernel_rfl⟩
instance : TPlaces Tryz.prog 185 [(0, 1), (1, 1)] := ⟨by kernel_rfl⟩
instance : TField Tryz.prog 185 0 0 := ⟨_, _, Tryz.underlying185, rfl, rfl, by kernel_rfl⟩
instance : TField Tryz.prog 185 1 1 := ⟨_, _, Tryz.underlying185, rfl, rfl, by kernel_rfl⟩
instance : TAgg Tryz.prog 186 2 := ⟨by kernel_rfl, by kernel_rfl⟩
instance : TSize Tryz.prog 186 2 := ⟨by kernel_rfl⟩
instance : TZero Tryz.prog 186 ([.int .i64 0, .slice none 0 0]) := ⟨by kernel_rfl⟩
instance : TElem Tryz.prog 186 2 32 ([.int .i64 0, .slice none 0 0]) := ⟨by kernel_rfl, by kernel_rfl⟩
instance : TPlaces Tryz.prog 186 [(0, 1), (1, 1)] := ⟨by kernel_rfl⟩
instance : TField Tryz.prog 186 0 0 := ⟨_, _, Tryz.underlying186, rfl, rfl, by kernel_rfl⟩
instance : TField Tryz.prog 186 1 1 := ⟨_, _, Tryz.underlying186, rfl, rfl, by kernel_rfl⟩
instance : TPlain Tryz.prog 187 := ⟨by kernel_rfl⟩
instance : TSize Tryz.prog 187 1 := ⟨by kernel_rfl⟩
instance : TAgg Tryz.prog 188 2 := ⟨by kernel_rfl, by kernel_rfl⟩
instance : TSize Tryz.prog 188 2 := ⟨by kernel_rfl⟩
instance : TZero Tryz.prog 188 ([.bool false, .int .u8 0]) := ⟨by kernel_rfl⟩
instance : TElem Tryz.prog 188 2 2 ([.bool false, .int .u8 0]) := ⟨by kernel_rfl, by kernel_rfl⟩
instance : TPlaces Tryz.prog 188 [(0, 1), (1, 1)] := ⟨by kernel_rfl⟩
instance : TField Tryz.prog 188 0 0 := ⟨_, _, Tryz.underlying188, rfl, rfl, by kernel_rfl⟩
instance : TField Tryz.prog 188 1 1 := ⟨_, _, Tryz.underlying188, rfl, rfl, by kernel_rfl⟩
instance : TEq Tryz.prog 188 ([.bool false, .int .u8 0]) := ⟨by kernel_rfl, by kernel_rfl, by kernel_rfl⟩
instance : TAgg Tryz.prog 189 2 := ⟨by kernel_rfl, by kernel_rfl⟩
instance : TSize Tryz.prog 189 2 := ⟨by kernel_rfl⟩
instance : TZero Tryz.prog 189 ([.bool false, .int .u8 0]) := ⟨by kernel_rfl⟩
instance : TElem Tryz.prog 189 2 2 ([.bool false, .int .u8 0]) := ⟨by kernel_rfl, by kernel_rfl⟩
instance : TPlaces Tryz.prog 189 [(0, 1), (1, 1)] := ⟨by kernel_rfl⟩
instance : TField Tryz.prog 189 0 0 := ⟨_, _, Tryz.underlying189, rfl, rfl, by kernel_rfl⟩
instance : TField Tryz.prog 189 1 1 := ⟨_, _, Tryz.underlying189, rfl, rfl, by kernel_rfl⟩
instance : TEq Tryz.prog 189 ([.bool false, .int .u8 0]) := ⟨by kernel_rfl, by kernel_rfl, by kernel_rfl⟩
instance : TPlain Tryz.prog 190 := ⟨by kernel_rfl⟩
instance : TSize Tryz.prog 190 1 := ⟨by kernel_rfl⟩
instance : TPlain Tryz.prog 191 := ⟨by kernel_rfl⟩
instance : TSize Tryz.prog 191 1 := ⟨by kernel_rfl⟩
instance : TPlain Tryz.prog 192 := ⟨by kernel_rfl⟩
instance : TSize Tryz.prog 192 1 := ⟨by kernel_rfl⟩
instance : TPlain Tryz.prog 193 := ⟨by kernel_rfl⟩
instance : TSize Tryz.prog 193 1 := ⟨by kernel_rfl⟩
instance : TPlain Tryz.prog 194 := ⟨by kernel_rfl⟩
instance : TSize Tryz.prog 194 1 := ⟨by kernel_rfl⟩
instance : TPlain Tryz.prog 196 := ⟨by kernel_rfl⟩
instance : TSize Tryz.prog 196 1 := ⟨by kernel_rfl⟩
instance : TPlain Tryz.prog 197 := ⟨by kernel_rfl⟩
instance : TSize Tryz.prog 197 1 := ⟨by kernel_rfl⟩
instance : TPlain Tryz.prog 198 := ⟨by kernel_rfl⟩
instance : TSize Tryz.prog 198 1 := ⟨by kernel_rfl⟩
instance : TPlain Tryz.prog 199 := ⟨by kernel_rfl⟩
instance : TSize Tryz.prog 199 1 := ⟨by kernel_rfl⟩
instance : TPlain Tryz.prog 200 := ⟨by kernel_rfl⟩
instance : TSize Tryz.prog 200 1 := ⟨by kernel_rfl⟩
instance : TPlain Tryz.prog 202 := ⟨by kernel_rfl⟩
instance : TSize Tryz.prog 202 1 := ⟨by kernel_rfl⟩
instance : TPlain Tryz.prog 203 := ⟨by kernel_rfl⟩
instance : TSize Tryz.prog 203 1 := ⟨by kernel_rfl⟩
instance : TPlain Tryz.prog 204 := ⟨by kernel_rfl⟩
instance : TSize Tryz.prog 204 1 := ⟨by kernel_rfl⟩
instance : TPlain Tryz.prog 205 := ⟨by kernel_rfl⟩
instance : TSize Tryz.prog 205 1 := ⟨by kernel_rfl⟩
instance : TPlain Tryz.prog 206 := ⟨by kernel_rfl⟩
instance : TSize Tryz.prog 206 1 := ⟨by kernel_rfl⟩
instance : TPlain Tryz.prog 207 := ⟨by kernel_rfl⟩
instance : TSize Tryz.prog 207 1 := ⟨by kernel_rfl⟩
instance : TPlain Tryz.prog 208 := ⟨by kernel_rfl⟩
instance : TSize Tryz.prog 208 1 := ⟨by kernel_rfl⟩
instance : TPlain Tryz.prog 209 := ⟨by kernel_rfl⟩
instance : TSize Tryz.prog 209 1 := ⟨by kernel_rfl⟩
instance : TPlain Tryz.prog 210 := ⟨by kernel_rfl⟩
instance : TSize Tryz.prog 210 1 := ⟨by kernel_rfl⟩
instance : TPlain Tryz.prog 211 := ⟨by kernel_rfl⟩
instance : TSize Tryz.prog 211 1 := ⟨by kernel_rfl⟩
instance : TPlain Tryz.prog 212 := ⟨by kernel_rfl⟩
instance : TSize Tryz.prog 212 1 := ⟨by kernel_rfl⟩
instance : TPlain Tryz.prog 213 := ⟨by kernel_rfl⟩
instance : TSize Tryz.prog 213 1 := ⟨by kernel_rfl⟩
instance : TPlain Tryz.prog 214 := ⟨by kernel_rfl⟩
instance : TSize Tryz.prog 214 1 := ⟨by kernel_rfl⟩
instance : TPlain Tryz.prog 215 := ⟨by kernel_rfl⟩
instance : TSize Tryz.prog 215 1 := ⟨by kernel_rfl⟩
instance : TPlain Tryz.prog 216 := ⟨by kernel_rfl⟩
instance : TSize Tryz.prog 216 1 := ⟨by kernel_rfl⟩
instance : TPlain Tryz.prog 217 := ⟨by kernel_rfl⟩
instance : TSize Tryz.prog 217 1 := ⟨by kernel_rfl⟩
instance : TPlain Tryz.prog 218 := ⟨by kernel_rfl⟩
instance : TSize Tryz.prog 218 1 := ⟨by kernel_rfl⟩
instance : TPlain Tryz.prog 219 := ⟨by kernel_rfl⟩
instance : TSize Tryz.prog 219 1 := ⟨by kernel_rfl⟩
instance : TPlain Tryz.prog 220 := ⟨by kernel_rfl⟩
instance : TSize Tryz.prog 220 1 := ⟨by kernel_rfl⟩
instance : TPlain Tryz.prog 221 := ⟨by kernel_rfl⟩
instance : TSize Tryz.prog 221 1 := ⟨by kernel_rfl⟩
instance : TPlain Tryz.prog 222 := ⟨by kernel_rfl⟩
instance : TSize Tryz.prog 222 1 := ⟨by kernel_rfl⟩
instance : TPlain Tryz.prog 224 := ⟨by kernel_rfl⟩
instance : TSize Tryz.prog 224 1 := ⟨by kernel_rfl⟩
instance : TPlain Tryz.prog 225 := ⟨by kernel_rfl⟩
instance : TSize Tryz.prog 225 1 := ⟨by kernel_rfl⟩
instance : TPlain Tryz.prog 226 := ⟨by kernel_rfl⟩
instance : TSize Tryz.prog 226 1 := ⟨by kernel_rfl⟩
instance : TPlain Tryz.prog 227 := ⟨by kernel_rfl⟩
instance : TSize Tryz.prog 227 1 := ⟨by kernel_rfl⟩
instance : TPlain Tryz.prog 228 := ⟨by kernel_rfl⟩
instance : TSize Tryz.prog 228 1 := ⟨by kernel_rfl⟩
instance : TPlain Tryz.prog 229 := ⟨by kernel_rfl⟩
instance : TSize Tryz.prog 229 1 := ⟨by kernel_rfl⟩
instance : TPlain Tryz.prog 230 := ⟨by kernel_rfl⟩
instance : TSize Tryz.prog 230 1 := ⟨by kernel_rfl⟩
instance : TPlain Tryz.prog 231 := ⟨by kernel_rfl⟩
instance : TSize Tryz.prog 231 1 := ⟨by kernel_rfl⟩
instance : TPlain Tryz.prog 232 := ⟨by kernel_rfl⟩
instance : TSize Tryz.prog 232 1 := ⟨by kernel_rfl⟩
instance : TPlain Tryz.prog 233 := ⟨by kernel_rfl⟩
instance : TSize Tryz.prog 233 1 := ⟨by kernel_rfl⟩
instance : TPlain Tryz.prog 234 := ⟨by kernel_rfl⟩
instance : TSize Tryz.prog 234 1 := ⟨by kernel_rfl⟩
instance : TPlain Tryz.prog 235 := ⟨by kernel_rfl⟩
instance : TSize Tryz.prog 235 1 := ⟨by kernel_rfl⟩
instance : TZero Tryz.prog 235 ([.pointer none]) := ⟨by kernel_rfl⟩
instance : TElem Tryz.prog 235 1 8 ([.pointer none]) := ⟨by kernel_rfl, by kernel_rfl⟩
instance : TPtr Tryz.prog 235 := ⟨by kernel_rfl⟩
instance : TAgg Tryz.prog 236 1 := ⟨by kernel_rfl, by kernel_rfl⟩
instance : TSize Tryz.prog 236 1 := ⟨by kernel_rfl⟩
instance : TZero Tryz.prog 236 ([.slice none 0 0]) := ⟨by kernel_rfl⟩
instance : TElem Tryz.prog 236 1 24 ([.slice none 0 0]) := ⟨by kernel_rfl, by kernel_rfl⟩
instance : TPlaces Tryz.prog 236 [(0, 1)] := ⟨by kernel_rfl⟩
instance : TField Tryz.prog 236 0 0 := ⟨_, _, Tryz.underlying236, rfl, rfl, by kernel_rfl⟩
instance : TAgg Tryz.prog 237 1 := ⟨by kernel_rfl, by kernel_rfl⟩
instance : TSize Tryz.prog 237 1 := ⟨by kernel_rfl⟩
instance : TZero Tryz.prog 237 ([.slice none 0 0]) := ⟨by kernel_rfl⟩
instance : TElem Tryz.prog 237 1 24 ([.slice none 0 0]) := ⟨by kernel_rfl, by kernel_rfl⟩
instance : TPlaces Tryz.prog 237 [(0, 1)] := ⟨by kernel_rfl⟩
instance : TField Tryz.prog 237 0 0 := ⟨_, _, Tryz.underlying237, rfl, rfl, by kernel_rfl⟩
instance : TPlain Tryz.prog 238 := ⟨by kernel_rfl⟩
instance : TSize Tryz.prog 238 1 := ⟨by kernel_rfl⟩
instance : TPlain Tryz.prog 239 := ⟨by kernel_rfl⟩
instance : TSize Tryz.prog 239 1 := ⟨by kernel_rfl⟩
instance : TPlain Tryz.prog 240 := ⟨by kernel_rfl⟩
instance : TSize Tryz.prog 240 1 := ⟨by kernel_rfl⟩
instance : TPlain Tryz.prog 241 := ⟨by kernel_rfl⟩
instance : TSize Tryz.prog 241 1 := ⟨by kernel_rfl⟩
instance : TPlain Tryz.prog 242 := ⟨by kernel_rfl⟩
instance : TSize Tryz.prog 242 1 := ⟨by kernel_rfl⟩
instance : TPlain Tryz.prog 243 := ⟨by kernel_rfl⟩
instance : TSize Tryz.prog 243 1 := ⟨by kernel_rfl⟩
instance : TPlain Tryz.prog 244 := ⟨by kernel_rfl⟩
instance : TSize Tryz.prog 244 1 := ⟨by kernel_rfl⟩
instance : TPlain Tryz.prog 245 := ⟨by kernel_rfl⟩
instance : TSize Tryz.prog 245 1 := ⟨by kernel_rfl⟩
instance : TPlain Tryz.prog 246 := ⟨by kernel_rfl⟩
instance : TSize Tryz.prog 246 1 := ⟨by kernel_rfl⟩
instance : TPlain Tryz.prog 247 := ⟨by kernel_rfl⟩
instance : TSize Tryz.prog 247 1 := ⟨by kernel_rfl⟩
instance : TPlain Tryz.prog 248 := ⟨by kernel_rfl⟩
instance : TSize Tryz.prog 248 1 := ⟨by kernel_rfl⟩
instance : TZero Tryz.prog 248 ([.int .i64 0]) := ⟨by kernel_rfl⟩
instance : TElem Tryz.prog 248 1 8 ([.int .i64 0]) := ⟨by kernel_rfl, by kernel_rfl⟩
instance : TInt Tryz.prog 248 .i64 := ⟨Tryz.underlying248⟩
instance : TPlain Tryz.prog 250 := ⟨by kernel_rfl⟩
instance : TSize Tryz.prog 250 1 := ⟨by kernel_rfl⟩
instance : TPlain Tryz.prog 251 := ⟨by kernel_rfl⟩
instance : TSize Tryz.prog 251 1 := ⟨by kernel_rfl⟩
instance : TPlain Tryz.prog 252 := ⟨by kernel_rfl⟩
instance : TSize Tryz.prog 252 1 := ⟨by kernel_rfl⟩
instance : TPlain Tryz.prog 254 := ⟨by kernel_rfl⟩
instance : TSize Tryz.prog 254 1 := ⟨by kernel_rfl⟩
instance : TPlain Tryz.prog 255 := ⟨by kernel_rfl⟩
instance : TSize Tryz.prog 255 1 := ⟨by kernel_rfl⟩
instance : TPlain Tryz.prog 256 := ⟨by kernel_rfl⟩
instance : TSize Tryz.prog 256 1 := ⟨by kernel_rfl⟩
instance : TPlain Tryz.prog 257 := ⟨by kernel_rfl⟩
instance : TSize Tryz.prog 257 1 := ⟨by kernel_rfl⟩
instance : TPlain Tryz.prog 258 := ⟨by kernel_rfl⟩
instance : TSize Tryz.prog 258 1 := ⟨by kernel_rfl⟩
instance : TPlain Tryz.prog 259 := ⟨by kernel_rfl⟩
instance : TSize Tryz.prog 259 1 := ⟨by kernel_rfl⟩
instance : TPlain Tryz.prog 260 := ⟨by kernel_rfl⟩
instance : TSize Tryz.prog 260 1 := ⟨by kernel_rfl⟩
instance : TPlain Tryz.prog 261 := ⟨by kernel_rfl⟩
instance : TSize Tryz.prog 261 1 := ⟨by kernel_rfl⟩
instance : TPlain Tryz.prog 262 := ⟨by kernel_rfl⟩
instance : TSize Tryz.prog 262 1 := ⟨by kernel_rfl⟩
instance : TPlain Tryz.prog 263 := ⟨by kernel_rfl⟩
instance : TSize Tryz.prog 263 1 := ⟨by kernel_rfl⟩
instance : TZero Tryz.prog 263 ([.pointer none]) := ⟨by kernel_rfl⟩
instance : TElem Tryz.prog 263 1 8 ([.pointer none]) := ⟨by kernel_rfl, by kernel_rfl⟩
instance : TPtr Tryz.prog 263 := ⟨by kernel_rfl⟩
instance : TAgg Tryz.prog 264 2 := ⟨by kernel_rfl, by kernel_rfl⟩
instance : TSize Tryz.prog 264 2 := ⟨by kernel_rfl⟩
instance : TZero Tryz.prog 264 ([.pointer none, .int .i64 0]) := ⟨by kernel_rfl⟩
instance : TElem Tryz.prog 264 2 16 ([.pointer none, .int .i64 0]) := ⟨by kernel_rfl, by kernel_rfl⟩
instance : TPlaces Tryz.prog 264 [(0, 1), (1, 1)] := ⟨by kernel_rfl⟩
instance : TField Tryz.prog 264 0 0 := ⟨_, _, Tryz.underlying264, rfl, rfl, by kernel_rfl⟩
instance : TField Tryz.prog 264 1 1 := ⟨_, _, Tryz.underlying264, rfl, rfl, by kernel_rfl⟩
instance : TAgg Tryz.prog 265 2 := ⟨by kernel_rfl, by kernel_rfl⟩
instance : TSize Tryz.prog 265 2 := ⟨by kernel_rfl⟩
instance : TZero Tryz.prog 265 ([.pointer none, .int .i64 0]) := ⟨by kernel_rfl⟩
instance : TElem Tryz.prog 265 2 16 ([.pointer none, .int .i64 0]) := ⟨by kernel_rfl, by kernel_rfl⟩
instance : TPlaces Tryz.prog 265 [(0, 1), (1, 1)] := ⟨by kernel_rfl⟩
instance : TField Tryz.prog 265 0 0 := ⟨_, _, Tryz.underlying265, rfl, rfl, by kernel_rfl⟩
instance : TField Tryz.prog 265 1 1 := ⟨_, _, Tryz.underlying265, rfl, rfl, by kernel_rfl⟩
instance : TPlain Tryz.prog 266 := ⟨by kernel_rfl⟩
instance : TSize Tryz.prog 266 1 := ⟨by kernel_rfl⟩
instance : TPlain Tryz.prog 267 := ⟨by kernel_rfl⟩
instance : TSize Tryz.prog 267 1 := ⟨by kernel_rfl⟩
instance : TPlain Tryz.prog 268 := ⟨by kernel_rfl⟩
instance : TSize Tryz.prog 268 1 := ⟨by kernel_rfl⟩
instance : TPlain Tryz.prog 269 := ⟨by kernel_rfl⟩
instance : TSize Tryz.prog 269 1 := ⟨by kernel_rfl⟩
instance : TPlain Tryz.prog 270 := ⟨by kernel_rfl⟩
instance : TSize Tryz.prog 270 1 := ⟨by kernel_rfl⟩
instance : TPlain Tryz.prog 271 := ⟨by kernel_rfl⟩
instance : TSize Tryz.prog 271 1 := ⟨by kernel_rfl⟩
instance : TPlain Tryz.prog 272 := ⟨by kernel_rfl⟩
instance : TSize Tryz.prog 272 1 := ⟨by kernel_rfl⟩
instance : TPlain Tryz.prog 273 := ⟨by kernel_rfl⟩
instance : TSize Tryz.prog 273 1 := ⟨by kernel_rfl⟩
instance : TPlain Tryz.prog 274 := ⟨by kernel_rfl⟩
instance : TSize Tryz.prog 274 1 := ⟨by kernel_rfl⟩
instance : TPlain Tryz.prog 275 := ⟨by kernel_rfl⟩
instance : TSize Tryz.prog 275 1 := ⟨by kernel_rfl⟩
instance : TPlain Tryz.prog 276 := ⟨by kernel_rfl⟩
instance : TSize Tryz.prog 276 1 := ⟨by kernel_rfl⟩
instance : TPlain Tryz.prog 277 := ⟨by kernel_rfl⟩
instance : TSize Tryz.prog 277 1 := ⟨by kernel_rfl⟩
instance : TPlain Tryz.prog 278 := ⟨by kernel_rfl⟩
instance : TSize Tryz.prog 278 1 := ⟨by kernel_rfl⟩
instance : TPlain Tryz.prog 279 := ⟨by kernel_rfl⟩
instance : TSize Tryz.prog 279 1 := ⟨by kernel_rfl⟩
instance : TPlain Tryz.prog 280 := ⟨by kernel_rfl⟩
instance : TSize Tryz.prog 280 1 := ⟨by kernel_rfl⟩
instance : TZero Tryz.prog 280 ([.int .u64 0]) := ⟨by kernel_rfl⟩
instance : TElem Tryz.prog 280 1 8 ([.int .u64 0]) := ⟨by kernel_rfl, by kernel_rfl⟩
instance : TInt Tryz.prog 280 .u64 := ⟨Tryz.underlying280⟩
instance : TPlain Tryz.prog 281 := ⟨by kernel_rfl⟩
instance : TSize Tryz.prog 281 1 := ⟨by kernel_rfl⟩
instance : TPlain Tryz.prog 282 := ⟨by kernel_rfl⟩
instance : TSize Tryz.prog 282 1 := ⟨by kernel_rfl⟩
instance : TPlain Tryz.prog 283 := ⟨by kernel_rfl⟩
instance : TSize Tryz.prog 283 1 := ⟨by kernel_rfl⟩
instance : TPlain Tryz.prog 284 := ⟨by kernel_rfl⟩
instance : TSize Tryz.prog 284 1 := ⟨by kernel_rfl⟩
instance : TZero Tryz.prog 284 ([.pointer none]) := ⟨by kernel_rfl⟩
instance : TElem Tryz.prog 284 1 8 ([.pointer none]) := ⟨by kernel_rfl, by kernel_rfl⟩
instance : TPtr Tryz.prog 284 := ⟨by kernel_rfl⟩
instance : TPlain Tryz.prog 285 := ⟨by kernel_rfl⟩
instance : TSize Tryz.prog 285 1 := ⟨by kernel_rfl⟩
instance : TPlain Tryz.prog 286 := ⟨by kernel_rfl⟩
instance : TSize Tryz.prog 286 1 := ⟨by kernel_rfl⟩
instance : TPlain Tryz.prog 287 := ⟨by kernel_rfl⟩
instance : TSize Tryz.prog 287 1 := ⟨by kernel_rfl⟩
instance : TZero Tryz.prog 287 ([.slice none 0 0]) := ⟨by kernel_rfl⟩
instance : TElem Tryz.prog 287 1 24 ([.slice none 0 0]) := ⟨by kernel_rfl, by kernel_rfl⟩
instance : TSlice Tryz.prog 287 29 := ⟨Tryz.underlying287⟩
instance : TPlain Tryz.prog 288 := ⟨by kernel_rfl⟩
instance : TSize Tryz.prog 288 1 := ⟨by kernel_rfl⟩
instance : TPlain Tryz.prog 289 := ⟨by kernel_rfl⟩
instance : TSize Tryz.prog 289 1 := ⟨by kernel_rfl⟩
instance : TZero Tryz.prog 289 ([.slice none 0 0]) := ⟨by kernel_rfl⟩
instance : TElem Tryz.prog 289 1 24 ([.slice none 0 0]) := ⟨by kernel_rfl, by kernel_rfl⟩
instance : TSlice Tryz.prog 289 123 := ⟨Tryz.underlying289⟩
instance : TPlain Tryz.prog 290 := ⟨by kernel_rfl⟩
instance : TSize Tryz.prog 290 1 := ⟨by kernel_rfl⟩
instance : TPlain Tryz.prog 291 := ⟨by kernel_rfl⟩
instance : TSize Tryz.prog 291 1 := ⟨by kernel_rfl⟩
instance : TZero Tryz.prog 291 ([.slice none 0 0]) := ⟨by kernel_rfl⟩
instance : TElem Tryz.prog 291 1 24 ([.slice none 0 0]) := ⟨by kernel_rfl, by kernel_rfl⟩
instance : TSlice Tryz.prog 291 57 := ⟨Tryz.underlying291⟩
instance : TPlain Tryz.prog 292 := ⟨by kernel_rfl⟩
instance : TSize Tryz.prog 292 1 := ⟨by kernel_rfl⟩
instance : TPlain Tryz.prog 293 := ⟨by kernel_rfl⟩
instance : TSize Tryz.prog 293 1 := ⟨by kernel_rfl⟩
instance : TZero Tryz.prog 293 ([.pointer none]) := ⟨by kernel_rfl⟩
instance : TElem Tryz.prog 293 1 8 ([.pointer none]) := ⟨by kernel_rfl, by kernel_rfl⟩
instance : TPtr Tryz.prog 293 := ⟨by kernel_rfl⟩
instance : TPlain Tryz.prog 294 := ⟨by kernel_rfl⟩
instance : TSize Tryz.prog 294 1 := ⟨by kernel_rfl⟩
instance : TPlain Tryz.prog 295 := ⟨by kernel_rfl⟩
instance : TSize Tryz.prog 295 1 := ⟨by kernel_rfl⟩
instance : TZero Tryz.prog 295 ([.pointer none]) := ⟨by kernel_rfl⟩
instance : TElem Tryz.prog 295 1 8 ([.pointer none]) := ⟨by kernel_rfl, by kernel_rfl⟩
instance : TPtr Tryz.prog 295 := ⟨by kernel_rfl⟩
instance : TPlain Tryz.prog 297 := ⟨by kernel_rfl⟩
instance : TSize Tryz.prog 297 1 := ⟨by kernel_rfl⟩
instance : TPlain Tryz.prog 298 := ⟨by kernel_rfl⟩
instance : TSize Tryz.prog 298 1 := ⟨by kernel_rfl⟩
instance : TPlain Tryz.prog 299 := ⟨by kernel_rfl⟩
instance : TSize Tryz.prog 299 1 := ⟨by kernel_rfl⟩
instance : TAgg Tryz.prog 300 4 := ⟨by kernel_rfl, by kernel_rfl⟩
instance : TSize Tryz.prog 300 4 := ⟨by kernel_rfl⟩
instance : TZero Tryz.prog 300 ([.pointer none, .pointer none, .pointer none, .string ⟨#[]⟩]) := ⟨by kernel_rfl⟩
instance : TElem Tryz.prog 300 4 40 ([.pointer none, .pointer none, .pointer none, .string ⟨#[]⟩]) := ⟨by kernel_rfl, by kernel_rfl⟩
instance : TPlaces Tryz.prog 300 [(0, 1), (1, 1), (2, 1), (3, 1)] := ⟨by kernel_rfl⟩
instance : TField Tryz.prog 300 0 0 := ⟨_, _, Tryz.underlying300, rfl, rfl, by kernel_rfl⟩
instance : TField Tryz.prog 300 1 1 := ⟨_, _, Tryz.underlying300, rfl, rfl, by kernel_rfl⟩
instance : TField Tryz.prog 300 2 2 := ⟨_, _, Tryz.underlying300, rfl, rfl, by kernel_rfl⟩
instance : TField Tryz.prog 300 3 3 := ⟨_, _, Tryz.underlying300, rfl, rfl, by kernel_rfl⟩
instance : TAgg Tryz.prog 302 0 := ⟨by kernel_rfl, by kernel_rfl⟩
instance : TSize Tryz.prog 302 0 := ⟨by kernel_rfl⟩
instance : TZero Tryz.prog 302 ([]) := ⟨by kernel_rfl⟩
instance : TArr Tryz.prog 302 0 16 1 := ⟨Tryz.underlying302, by kernel_rfl⟩
instance : TAgg Tryz.prog 303 0 := ⟨by kernel_rfl, by kernel_rfl⟩
instance : TSize Tryz.prog 303 0 := ⟨by kernel_rfl⟩
instance : TZero Tryz.prog 303 ([]) := ⟨by kernel_rfl⟩
instance : TPlaces Tryz.prog 303 [(0, 0)] := ⟨by kernel_rfl⟩
instance : TPlain Tryz.prog 307 := ⟨by kernel_rfl⟩
instance : TSize Tryz.prog 307 1 := ⟨by kernel_rfl⟩
instance : TPlain Tryz.prog 308 := ⟨by kernel_rfl⟩
instance : TSize Tryz.prog 308 1 := ⟨by kernel_rfl⟩
instance : TZero Tryz.prog 308 ([.pointer none]) := ⟨by kernel_rfl⟩
instance : TElem Tryz.prog 308 1 8 ([.pointer none]) := ⟨by kernel_rfl, by kernel_rfl⟩
instance : TPtr Tryz.prog 308 := ⟨by kernel_rfl⟩
instance : TAgg Tryz.prog 311 11 := ⟨by kernel_rfl, by kernel_rfl⟩
instance : TSize Tryz.prog 311 11 := ⟨by kernel_rfl⟩
instance : TZero Tryz.prog 311 ([.int .u64 0, .int .u64 0, .int .u32 0, .int .u8 0, .int .u8 0, .int .u8 0, .int .u8 0, .nilFunc, .pointer none, .int .i32 0, .int .i32 0]) := ⟨by kernel_rfl⟩
instance : TElem Tryz.prog 311 11 48 ([.int .u64 0, .int .u64 0, .int .u32 0, .int .u8 0, .int .u8 0, .int .u8 0, .int .u8 0, .nilFunc, .pointer none, .int .i32 0, .int .i32 0]) := ⟨by kernel_rfl, by kernel_rfl⟩
instance : TPlaces Tryz.prog 311 [(0, 1), (1, 1), (2, 1), (3, 1), (4, 1), (5, 1), (6, 1), (7, 1), (8, 1), (9, 1), (10, 1)] := ⟨by kernel_rfl⟩
instance : TField Tryz.prog 311 0 0 := ⟨_, _, Tryz.underlying311, rfl, rfl, by kernel_rfl⟩
instance : TField Tryz.prog 311 1 1 := ⟨_, _, Tryz.underlying311, rfl, rfl, by kernel_rfl⟩
instance : TField Tryz.prog 311 2 2 := ⟨_, _, Tryz.underlying311, rfl, rfl, by kernel_rfl⟩
instance : TField Tryz.prog 311 3 3 := ⟨_, _, Tryz.underlying311, rfl, rfl, by kernel_rfl⟩
instance : TField Tryz.prog 311 4 4 := ⟨_, _, Tryz.underlying311, rfl, rfl, by kernel_rfl⟩
instance : TField Tryz.prog 311 5 5 := ⟨_, _, Tryz.underlying311, rfl, rfl, by kernel_rfl⟩
instance : TField Tryz.prog 311 6 6 := ⟨_, _, Tryz.underlying311, rfl, rfl, by kernel_rfl⟩
instance : TField Tryz.prog 311 7 7 := ⟨_, _, Tryz.underlying311, rfl, rfl, by kernel_rfl⟩
instance : TField Tryz.prog 311 8 8 := ⟨_, _, Tryz.underlying311, rfl, rfl, by kernel_rfl⟩
instance : TField Tryz.prog 311 9 9 := ⟨_, _, Tryz.underlying311, rfl, rfl, by kernel_rfl⟩
instance : TField Tryz.prog 311 10 10 := ⟨_, _, Tryz.underlying311, rfl, rfl, by kernel_rfl⟩
instance : TFn Tryz.prog 3 := ⟨_, Tryz.func3, rfl, by kernel_rfl⟩
instance : TFn Tryz.prog 4 := ⟨_, Tryz.func4, rfl, by kernel_rfl⟩
instance : TFn Tryz.prog 5 := ⟨_, Tryz.func5, rfl, by kernel_rfl⟩
instance : TFn Tryz.prog 6 := ⟨_, Tryz.func6, rfl, by kernel_rfl⟩
instance : TFn Tryz.prog 7 := ⟨_, Tryz.func7, rfl, by kernel_rfl⟩
instance : TFn Tryz.prog 8 := ⟨_, Tryz.func8, rfl, by kernel_rfl⟩
instance : TFn Tryz.prog 9 := ⟨_, Tryz.func9, rfl, by kernel_rfl⟩
instance : TFn Tryz.prog 10 := ⟨_, Tryz.func10, rfl, by kernel_rfl⟩
instance : TFn Tryz.prog 11 := ⟨_, Tryz.func11, rfl, by kernel_rfl⟩
instance : TFn Tryz.prog 12 := ⟨_, Tryz.func12, rfl, by kernel_rfl⟩
instance : TFn Tryz.prog 13 := ⟨_, Tryz.func13, rfl, by kernel_rfl⟩
instance : TFn Tryz.prog 14 := ⟨_, Tryz.func14, rfl, by kernel_rfl⟩
instance : TFn Tryz.prog 15 := ⟨_, Tryz.func15, rfl, by kernel_rfl⟩
instance : TFn Tryz.prog 16 := ⟨_, Tryz.func16, rfl, by kernel_rfl⟩
instance : TFn Tryz.prog 17 := ⟨_, Tryz.func17, rfl, by kernel_rfl⟩
instance : TFn Tryz.prog 18 := ⟨_, Tryz.func18, rfl, by kernel_rfl⟩
instance : TFn Tryz.prog 19 := ⟨_, Tryz.func19, rfl, by kernel_rfl⟩
instance : TFn Tryz.prog 20 := ⟨_, Tryz.func20, rfl, by kernel_rfl⟩
instance : TFn Tryz.prog 21 := ⟨_, Tryz.func21, rfl, by kernel_rfl⟩
instance : TFn Tryz.prog 22 := ⟨_, Tryz.func22, rfl, by kernel_rfl⟩
instance : TFn Tryz.prog 23 := ⟨_, Tryz.func23, rfl, by kernel_rfl⟩
instance : TFn Tryz.prog 24 := ⟨_, Tryz.func24, rfl, by kernel_rfl⟩
instance : TFn Tryz.prog 25 := ⟨_, Tryz.func25, rfl, by kernel_rfl⟩
instance : TFn Tryz.prog 26 := ⟨_, Tryz.func26, rfl, by kernel_rfl⟩
instance : TFn Tryz.prog 27 := ⟨_, Tryz.func27, rfl, by kernel_rfl⟩
instance : TFn Tryz.prog 28 := ⟨_, Tryz.func28, rfl, by kernel_rfl⟩
instance : TFn Tryz.prog 29 := ⟨_, Tryz.func29, rfl, by kernel_rfl⟩
instance : TFn Tryz.prog 30 := ⟨_, Tryz.func30, rfl, by kernel_rfl⟩
instance : TFn Tryz.prog 31 := ⟨_, Tryz.func31, rfl, by kernel_rfl⟩
instance : TFn Tryz.prog 32 := ⟨_, Tryz.func32, rfl, by kernel_rfl⟩
instance : TFn Tryz.prog 33 := ⟨_, Tryz.func33, rfl, by kernel_rfl⟩
instance : TFn Tryz.prog 34 := ⟨_, Tryz.func34, rfl, by kernel_rfl⟩
instance : TFn Tryz.prog 35 := ⟨_, Tryz.func35, rfl, by kernel_rfl⟩
instance : TFn Tryz.prog 36 := ⟨_, Tryz.func36, rfl, by kernel_rfl⟩
instance : TFn Tryz.prog 37 := ⟨_, Tryz.func37, rfl, by kernel_rfl⟩
instance : TFn Tryz.prog 38 := ⟨_, Tryz.func38, rfl, by kernel_rfl⟩
instance : TFn Tryz.prog 39 := ⟨_, Tryz.func39, rfl, by kernel_rfl⟩
instance : TFn Tryz.prog 40 := ⟨_, Tryz.func40, rfl, by kernel_rfl⟩
instance : TFn Tryz.prog 41 := ⟨_, Tryz.func41, rfl, by kernel_rfl⟩
instance : TFn Tryz.prog 42 := ⟨_, Tryz.func42, rfl, by kernel_rfl⟩
instance : TFn Tryz.prog 43 := ⟨_, Tryz.func43, rfl, by kernel_rfl⟩
instance : TFn Tryz.prog 44 := ⟨_, Tryz.func44, rfl, by kernel_rfl⟩
instance : TFn Tryz.prog 45 := ⟨_, Tryz.func45, rfl, by kernel_rfl⟩
instance : TFn Tryz.prog 46 := ⟨_, Tryz.func46, rfl, by kernel_rfl⟩
instance : TFn Tryz.prog 47 := ⟨_, Tryz.func47, rfl, by kernel_rfl⟩
instance : TFn Tryz.prog 48 := ⟨_, Tryz.func48, rfl, by kernel_rfl⟩
instance : TFn Tryz.prog 49 := ⟨_, Tryz.func49, rfl, by kernel_rfl⟩
instance : TFn Tryz.prog 50 := ⟨_, Tryz.func50, rfl, by kernel_rfl⟩
instance : TFn Tryz.prog 51 := ⟨_, Tryz.func51, rfl, by kernel_rfl⟩
instance : TFn Tryz.prog 52 := ⟨_, Tryz.func52, rfl, by kernel_rfl⟩
instance : TFn Tryz.prog 53 := ⟨_, Tryz.func53, rfl, by kernel_rfl⟩
instance : TFn Tryz.prog 54 := ⟨_, Tryz.func54, rfl, by kernel_rfl⟩
instance : TFn Tryz.prog 55 := ⟨_, Tryz.func55, rfl, by kernel_rfl⟩
instance : TFn Tryz.prog 56 := ⟨_, Tryz.func56, rfl, by kernel_rfl⟩
instance : TFn Tryz.prog 57 := ⟨_, Tryz.func57, rfl, by kernel_rfl⟩
instance : TFn Tryz.prog 58 := ⟨_, Tryz.func58, rfl, by kernel_rfl⟩
instance : TFn Tryz.prog 59 := ⟨_, Tryz.func59, rfl, by kernel_rfl⟩
instance : TFn Tryz.prog 60 := ⟨_, Tryz.func60, rfl, by kernel_rfl⟩
instance : TFn Tryz.prog 61 := ⟨_, Tryz.func61, rfl, by kernel_rfl⟩
instance : TFn Tryz.prog 62 := ⟨_, Tryz.func62, rfl, by kernel_rfl⟩
instance : TFn Tryz.prog 63 := ⟨_, Tryz.func63, rfl, by kernel_rfl⟩
instance : TFn Tryz.prog 64 := ⟨_, Tryz.func64, rfl, by kernel_rfl⟩
instance : TFn Tryz.prog 65 := ⟨_, Tryz.func65, rfl, by kernel_rfl⟩
instance : TFn Tryz.prog 66 := ⟨_, Tryz.func66, rfl, by kernel_rfl⟩
instance : TFn Tryz.prog 67 := ⟨_, Tryz.func67, rfl, by kernel_rfl⟩
instance : TFn Tryz.prog 68 := ⟨_, Tryz.func68, rfl, by kernel_rfl⟩
instance : TFn Tryz.prog 69 := ⟨_, Tryz.func69, rfl, by kernel_rfl⟩
instance : TFn Tryz.prog 70 := ⟨_, Tryz.func70, rfl, by kernel_rfl⟩
instance : TFn Tryz.prog 71 := ⟨_, Tryz.func71, rfl, by kernel_rfl⟩
instance : TFn Tryz.prog 72 := ⟨_, Tryz.func72, rfl, by kernel_rfl⟩
instance : TFn Tryz.prog 73 := ⟨_, Tryz.func73, rfl, by kernel_rfl⟩
instance : TFn Tryz.prog 74 := ⟨_, Tryz.func74, rfl, by kernel_rfl⟩
instance : TFn Tryz.prog 75 := ⟨_, Tryz.func75, rfl, by kernel_rfl⟩
instance : TFn Tryz.prog 76 := ⟨_, Tryz.func76, rfl, by kernel_rfl⟩
instance : TFn Tryz.prog 77 := ⟨_, Tryz.func77, rfl, by kernel_rfl⟩
instance : TFn Tryz.prog 78 := ⟨_, Tryz.func78, rfl, by kernel_rfl⟩
instance : TFn Tryz.prog 79 := ⟨_, Tryz.func79, rfl, by kernel_rfl⟩
instance : TFn Tryz.prog 80 := ⟨_, Tryz.func80, rfl, by kernel_rfl⟩
instance : TFn Tryz.prog 81 := ⟨_, Tryz.func81, rfl, by kernel_rfl⟩
instance : TFn Tryz.prog 82 := ⟨_, Tryz.func82, rfl, by kernel_rfl⟩
instance : TFn Tryz.prog 83 := ⟨_, Tryz.func83, rfl, by kernel_rfl⟩
instance : TFn Tryz.prog 84 := ⟨_, Tryz.func84, rfl, by kernel_rfl⟩
instance : TFn Tryz.prog 85 := ⟨_, Tryz.func85, rfl, by kernel_rfl⟩
instance : TFn Tryz.prog 86 := ⟨_, Tryz.func86, rfl, by kernel_rfl⟩
instance : TFn Tryz.prog 87 := ⟨_, Tryz.func87, rfl, by kernel_rfl⟩
instance : TFn Tryz.prog 88 := ⟨_, Tryz.func88, rfl, by kernel_rfl⟩
instance : TFn Tryz.prog 89 := ⟨_, Tryz.func89, rfl, by kernel_rfl⟩
instance : TFn Tryz.prog 90 := ⟨_, Tryz.func90, rfl, by kernel_rfl⟩
instance : TFn Tryz.prog 91 := ⟨_, Tryz.func91, rfl, by kernel_rfl⟩
instance : TFn Tryz.prog 92 := ⟨_, Tryz.func92, rfl, by kernel_rfl⟩
instance : TFn Tryz.prog 93 := ⟨_, Tryz.func93, rfl, by kernel_rfl⟩
instance : TFn Tryz.prog 94 := ⟨_, Tryz.func94, rfl, by kernel_rfl⟩
instance : TFn Tryz.prog 95 := ⟨_, Tryz.func95, rfl, by kernel_rfl⟩
instance : TFn Tryz.prog 96 := ⟨_, Tryz.func96, rfl, by kernel_rfl⟩
instance : TFn Tryz.prog 97 := ⟨_, Tryz.func97, rfl, by kernel_rfl⟩
instance : TFn Tryz.prog 98 := ⟨_, Tryz.func98, rfl, by kernel_rfl⟩
instance : TFn Tryz.prog 99 := ⟨_, Tryz.func99, rfl, by kernel_rfl⟩
instance : TFn Tryz.prog 100 := ⟨_, Tryz.func100, rfl, by kernel_rfl⟩
instance : TFn Tryz.prog 101 := ⟨_, Tryz.func101, rfl, by kernel_rfl⟩
instance : TFn Tryz.prog 102 := ⟨_, Tryz.func102, rfl, by kernel_rfl⟩
instance : TFn Tryz.prog 103 := ⟨_, Tryz.func103, rfl, by kernel_rfl⟩
instance : TFn Tryz.prog 104 := ⟨_, Tryz.func104, rfl, by kernel_rfl⟩
instance : TFn Tryz.prog 105 := ⟨_, Tryz.func105, rfl, by kernel_rfl⟩
instance : TFn Tryz.prog 106 := ⟨_, Tryz.func106, rfl, by kernel_rfl⟩
instance : TFn Tryz.prog 107 := ⟨_, Tryz.func107, rfl, by kernel_rfl⟩
instance : TFn Tryz.prog 108 := ⟨_, Tryz.func108, rfl, by kernel_rfl⟩
instance : TFn Tryz.prog 109 := ⟨_, Tryz.func109, rfl, by kernel_rfl⟩
instance : TFn Tryz.prog 110 := ⟨_, Tryz.func110, rfl, by kernel_rfl⟩
instance : TFn Tryz.prog 111 := ⟨_, Tryz.func111, rfl, by kernel_rfl⟩
instance : TFn Tryz.prog 112 := ⟨_, Tryz.func112, rfl, by kernel_rfl⟩
instance : TFn Tryz.prog 113 := ⟨_, Tryz.func113, rfl, by kernel_rfl⟩
instance : TFn Tryz.prog 114 := ⟨_, Tryz.func114, rfl, by kernel_rfl⟩
instance : TFn Tryz.prog 115 := ⟨_, Tryz.func115, rfl, by kernel_rfl⟩
instance : TFn Tryz.prog 116 := ⟨_, Tryz.func116, rfl, by kernel_rfl⟩
instance : TFn Tryz.prog 117 := ⟨_, Tryz.func117, rfl, by kernel_rfl⟩
instance : TFn Tryz.prog 118 := ⟨_, Tryz.func118, rfl, by kernel_rfl⟩
instance : TFn Tryz.prog 119 := ⟨_, Tryz.func119, rfl, by kernel_rfl⟩
instance : TFn Tryz.prog 120 := ⟨_, Tryz.func120, rfl, by kernel_rfl⟩
instance : TFn Tryz.prog 121 := ⟨_, Tryz.func121, rfl, by kernel_rfl⟩
instance : TFn Tryz.prog 122 := ⟨_, Tryz.func122, rfl, by kernel_rfl⟩
instance : TFn Tryz.prog 123 := ⟨_, Tryz.func123, rfl, by kernel_rfl⟩
instance : TFn Tryz.prog 124 := ⟨_, Tryz.func124, rfl, by kernel_rfl⟩
instance : TFn Tryz.prog 125 := ⟨_, Tryz.func125, rfl, by kernel_rfl⟩
instance : TFn Tryz.prog 126 := ⟨_, Tryz.func126, rfl, by kernel_rfl⟩
instance : TFn Tryz.prog 127 := ⟨_, Tryz.func127, rfl, by kernel_rfl⟩
instance : TFn Tryz.prog 128 := ⟨_, Tryz.func128, rfl, by kernel_rfl⟩
instance : TFn Tryz.prog 129 := ⟨_, Tryz.func129, rfl, by kernel_rfl⟩
instance : TFn Tryz.prog 130 := ⟨_, Tryz.func130, rfl, by kernel_rfl⟩
instance : TFn Tryz.prog 131 := ⟨_, Tryz.func131, rfl, by kernel_rfl⟩
instance : TFn Tryz.prog 132 := ⟨_, Tryz.func132, rfl, by kernel_rfl⟩
instance : TFn Tryz.prog 133 := ⟨_, Tryz.func133, rfl, by kernel_rfl⟩
instance : TFn Tryz.prog 134 := ⟨_, Tryz.func134, rfl, by kernel_rfl⟩
instance : TFn Tryz.prog 135 := ⟨_, Tryz.func135, rfl, by kernel_rfl⟩
instance : TFn Tryz.prog 136 := ⟨_, Tryz.func136, rfl, by kernel_rfl⟩
instance : TFn Tryz.prog 137 := ⟨_, Tryz.func137, rfl, by kernel_rfl⟩
instance : TFn Tryz.prog 138 := ⟨_, Tryz.func138, rfl, by kernel_rfl⟩
instance : TFn Tryz.prog 139 := ⟨_, Tryz.func139, rfl, by kernel_rfl⟩
instance : TFn Tryz.prog 140 := ⟨_, Tryz.func140, rfl, by kernel_rfl⟩
instance : TFn Tryz.prog 141 := ⟨_, Tryz.func141, rfl, by kernel_rfl⟩
instance : TFn Tryz.prog 142 := ⟨_, Tryz.func142, rfl, by kernel_rfl⟩
instance : TFn Tryz.prog 143 := ⟨_, Tryz.func143, rfl, by kernel_rfl⟩
instance : TFn Tryz.prog 144 := ⟨_, Tryz.func144, rfl, by kernel_rfl⟩
instance : TFn Tryz.prog 145 := ⟨_, Tryz.func145, rfl, by kernel_rfl⟩
instance : TFn Tryz.prog 146 := ⟨_, Tryz.func146, rfl, by kernel_rfl⟩
instance : TFn Tryz.prog 147 := ⟨_, Tryz.func147, rfl, by kernel_rfl⟩
instance : TFn Tryz.prog 148 := ⟨_, Tryz.func148, rfl, by kernel_rfl⟩
instance : TFn Tryz.prog 149 := ⟨_, Tryz.func149, rfl, by kernel_rfl⟩
instance : TFn Tryz.prog 150 := ⟨_, Tryz.func150, rfl, by kernel_rfl⟩
instance : TFn Tryz.prog 151 := ⟨_, Tryz.func151, rfl, by kernel_rfl⟩
instance : TFn Tryz.prog 153 := ⟨_, Tryz.func153, rfl, by kernel_rfl⟩
instance : TFn Tryz.prog 154 := ⟨_, Tryz.func154, rfl, by kernel_rfl⟩
instance : TFn Tryz.prog 155 := ⟨_, Tryz.func155, rfl, by kernel_rfl⟩
instance : TFn Tryz.prog 156 := ⟨_, Tryz.func156, rfl, by kernel_rfl⟩
instance : TFn Tryz.prog 157 := ⟨_, Tryz.func157, rfl, by kernel_rfl⟩
instance : TFn Tryz.prog 158 := ⟨_, Tryz.func158, rfl, by kernel_rfl⟩
instance : TFn Tryz.prog 159 := ⟨_, Tryz.func159, rfl, by kernel_rfl⟩
instance : TFn Tryz.prog 160 := ⟨_, Tryz.func160, rfl, by kernel_rfl⟩
instance : TFn Tryz.prog 161 := ⟨_, Tryz.func161, rfl, by kernel_rfl⟩
instance : TFn Tryz.prog 162 := ⟨_, Tryz.func162, rfl, by kernel_rfl⟩
instance : TFn Tryz.prog 163 := ⟨_, Tryz.func163, rfl, by kernel_rfl⟩
instance : TFn Tryz.prog 164 := ⟨_, Tryz.func164, rfl, by kernel_rfl⟩
instance : TFn Tryz.prog 165 := ⟨_, Tryz.func165, rfl, by kernel_rfl⟩
instance : TFn Tryz.prog 166 := ⟨_, Tryz.func166, rfl, by kernel_rfl⟩
instance : TFn Tryz.prog 167 := ⟨_, Tryz.func167, rfl, by kernel_rfl⟩
instance : TFn Tryz.prog 168 := ⟨_, Tryz.func168, rfl, by kernel_rfl⟩
instance : TFn Tryz.prog 169 := ⟨_, Tryz.func169, rfl, by kernel_rfl⟩
instance : TFn Tryz.prog 170 := ⟨_, Tryz.func170, rfl, by kernel_rfl⟩
instance : TFn Tryz.prog 171 := ⟨_, Tryz.func171, rfl, by kernel_rfl⟩
instance : TFn Tryz.prog 172 := ⟨_, Tryz.func172, rfl, by kernel_rfl⟩
instance : TFn Tryz.prog 173 := ⟨_, Tryz.func173, rfl, by kernel_rfl⟩
instance : TFn Tryz.prog 174 := ⟨_, Tryz.func174, rfl, by kernel_rfl⟩
instance : TFn Tryz.prog 175 := ⟨_, Tryz.func175, rfl, by kernel_rfl⟩
instance : TFn Tryz.prog 176 := ⟨_, Tryz.func176, rfl, by kernel_rfl⟩
instance : TFn Tryz.prog 177 := ⟨_, Tryz.func177, rfl, by kernel_rfl⟩
instance : TFn Tryz.prog 178 := ⟨_, Tryz.func178, rfl, by kernel_rfl⟩
instance : TFn Tryz.prog 179 := ⟨_, Tryz.func179, rfl, by kernel_rfl⟩
instance : TFn Tryz.prog 180 := ⟨_, Tryz.func180, rfl, by kernel_rfl⟩
instance : TFn Tryz.prog 182 := ⟨_, Tryz.func182, rfl, by kernel_rfl⟩
instance : TFn Tryz.prog 183 := ⟨_, Tryz.func183, rfl, by kernel_rfl⟩
instance : TFn Tryz.prog 184 := ⟨_, Tryz.func184, rfl, by kernel_rfl⟩
instance : TFn Tryz.prog 186 := ⟨_, Tryz.func186, rfl, by kernel_rfl⟩
instance : TFn Tryz.prog 187 := ⟨_, Tryz.func187, rfl, by kernel_rfl⟩
instance : TFn Tryz.prog 188 := ⟨_, Tryz.func188, rfl, by kernel_rfl⟩
instance : TFn Tryz.prog 189 := ⟨_, Tryz.func189, rfl, by kernel_rfl⟩
instance : TFn Tryz.prog 190 := ⟨_, Tryz.func190, rfl, by kernel_rfl⟩
instance : TFn Tryz.prog 191 := ⟨_, Tryz.func191, rfl, by kernel_rfl⟩
instance : TFn Tryz.prog 192 := ⟨_, Tryz.func192, rfl, by kernel_rfl⟩
instance : TFn Tryz.prog 193 := ⟨_, Tryz.func193, rfl, by kernel_rfl⟩
instance : TFn Tryz.prog 194 := ⟨_, Tryz.func194, rfl, by kernel_rfl⟩
instance : TFn Tryz.prog 195 := ⟨_, Tryz.func195, rfl, by kernel_rfl⟩
instance : TFn Tryz.prog 196 := ⟨_, Tryz.func196, rfl, by kernel_rfl⟩
instance : TFn Tryz.prog 197 := ⟨_, Tryz.func197, rfl, by kernel_rfl⟩
instance : TFn Tryz.prog 198 := ⟨_, Tryz.func198, rfl, by kernel_rfl⟩
instance : TFn Tryz.prog 199 := ⟨_, Tryz.func199, rfl, by kernel_rfl⟩
instance : TFn Tryz.prog 200 := ⟨_, Tryz.func200, rfl, by kernel_rfl⟩
instance : TFn Tryz.prog 201 := ⟨_, Tryz.func201, rfl, by kernel_rfl⟩
instance : TFn Tryz.prog 202 := ⟨_, Tryz.func202, rfl, by kernel_rfl⟩
instance : TFn Tryz.prog 203 := ⟨_, Tryz.func203, rfl, by kernel_rfl⟩
instance : TFn Tryz.prog 204 := ⟨_, Tryz.func204, rfl, by kernel_rfl⟩
instance : TFn Tryz.prog 205 := ⟨_, Tryz.func205, rfl, by kernel_rfl⟩
instance : TFn Tryz.prog 206 := ⟨_, Tryz.func206, rfl, by kernel_rfl⟩
instance : TFn Tryz.prog 207 := ⟨_, Tryz.func207, rfl, by kernel_rfl⟩
instance : TFn Tryz.prog 208 := ⟨_, Tryz.func208, rfl, by kernel_rfl⟩
instance : TFn Tryz.prog 209 := ⟨_, Tryz.func209, rfl, by kernel_rfl⟩
end Go.Proofs.YtcglabmlhljkmaaGreat
end
section
/- What is asked of this program as a whole. -/
namespace Go.Proofs.YtcglabmlhljkmaaGreat
open Go Go.Gv
instance : TMixed Tryz.prog := ⟨by kernel_rfl⟩
end Go.Proofs.YtcglabmlhljkmaaGreat
end
section
/- slices.Chunk of bytes, and the iterator that it hands back. -/
namespace Go.Proofs.YtcglabmlhljkmaaGreat
open Go Go.RowKit Go.Gv
set_option linter.unusedVariables false
set_option linter.unusedSimpArgs false

theorem slices_Chunk (A : Option Addr) (m c : Nat) : SpecR Tryz.prog 128 #[.slice A m c, .int .i64 64] (fun _ => True) (fun r H' => ∃ b2 b3 : Nat, r = .func (.func 168) #[] [.pointer (some ⟨b2, 0, none⟩), .pointer (some ⟨b3, 0, none⟩)].toArray ∧ H' = [blk b2 86 [.slice A m c], blk b3 3 [.int .i64 64]]) := by
  refine SpecR.of (fun w _ => ?_)
  refine Calls.enter Tryz.func128 rfl rfl rfl (St.rebase w) ?_
  simp only [argSlots]
  refine Ws ?_
  (refine Wbx ?_; intro b2)
  refine Ws ?_
  (refine Wbx ?_; intro b3)
  refine Ws ?_
  refine Zz 6 false ?_
  refine Ws ?_
  refine ZomakeFunc (vs := [.pointer (some ⟨b2, 0, none⟩), .pointer (some ⟨b3, 0, none⟩)]) ?_ (hc := by exact ⟨rfl, rfl, trivial⟩)
  refine Ws ?_
  refine Zfn [blk b2 86 [.slice A m c], blk b3 3 [.int .i64 64]] (hq := ?_)
  exact ⟨b2, b3, rfl, rfl⟩

def chunks (A : Option Addr) (m : Nat) : List (List Value) := (List.range (m / 64)).map fun k => [.slice (A.map (·.add (k * 64))) 64 64]
theorem chunks_get {A : Option Addr} {m k : Nat} (h : k * 64 + 64 ≤ m) : (chunks A m)[k]? = some [.slice (A.map (·.add (k * 64))) 64 64] := by
  unfold chunks
  rw [List.getElem?_map, List.getElem?_range (by omega)]; rfl
theorem chunks_of {A : Option Addr} {m k : Nat} {vs : List Value} (hm : m % 64 = 0) (h : (chunks A m)[k]? = some vs) : k * 64 + 64 ≤ m ∧ vs = [.slice (A.map (·.add (k * 64))) 64 64] := by
  have hk : k < m / 64 := by
    have := (List.getElem?_eq_some_iff.1 h).1
    simpa [chunks] using this
  have h2 : k * 64 + 64 ≤ m := by omega
  rw [chunks_get h2] at h
  exact ⟨h2, (Option.some.inj h).symm⟩
set_option maxHeartbeats 4000000 in
theorem chunk_iter (A : Option Addr) (m c b2 b3 : Nat) (hm : m % 64 = 0) (hc : m ≤ c ∧ m ≤ 1000000000) : Iter Tryz.prog 168 [.pointer (some ⟨b2, 0, none⟩), .pointer (some ⟨b3, 0, none⟩)] [blk b2 86 [.slice A m c], blk b3 3 [.int .i64 64]] (chunks A m) := by
  refine Iter.of (fun w0 l I J hY w h0 hw => ?_)
  have hxl : (chunks A m).length = m / 64 := by simp [chunks]
  rw [hxl]
  refine Calls.enter Tryz.func168 rfl rfl rfl hw ?_
  simp only [argSlots]
  refine Tri.wr ?_
  refine Wap ?_
  refine Ws ?_
  (refine Wl (α := { k : Nat // k ≤ m / 64 }) (fun x => m / 64 - x.1) (fun x => [(0, .func (.yield l) #[] #[]), (1, .pointer (some ⟨b2, 0, none⟩)), (2, .pointer (some ⟨b3, 0, none⟩)), (4, .int .i64 ((x.1 * 64 : Nat) : Int))]) (fun x => [I x.1, blk b2 86 [.slice A m c], blk b3 3 [.int .i64 64], Ex h0]) ⟨0, Nat.zero_le _⟩ ?_; rintro ⟨k, hk⟩ mx hmx; (try dsimp only at hmx ⊢))
  refine Ws ?_
  (refine Wcd ?_ ?_ <;> intro h)
  · have hk' : k * 64 + 64 ≤ m := by omega
    refine Ws ?_
    refine Wm [blk b2 86 [.slice A m c], blk b3 3 [.int .i64 64]] ?_
    refine Wq [0, 1, 2] ?_
    refine Zm 3 (h := fun _ _ x => by exact ZosliceH (lo := k * 64) (hi := m) x) (k := ?_)
    refine Wq [4, 5, 6] ?_
    refine ZE ?_
    refine Zi 5 64 ?_ (hi := by omega)
    refine Ws ?_
    refine Zi 24 ((k * 64 + 64 : Nat) : Int) ?_ (hi := by omega)
    refine Zi 27 ((k * 64 + 64 : Nat) : Int) ?_ (hi := by omega)
    refine Zoslice3 (lo := k * 64) (hi := k * 64 + 64) (mx := k * 64 + 64) ?_
    refine Zv 28 (.slice (A.map (·.add (k * 64))) 64 64) ?_ (hv := by rw [if_neg (by omega), show k * 64 + 64 - k * 64 = 64 by omega, Nat.mul_one])
    refine Ws ?_
    ((with_reducible apply TriR.yield (hy := hY k _ (chunks_get hk'))); (case hx => rfl); (case hargs => (repeat (first | exact evs.nil | (apply evs.cons; (case a => rfl))))); (case hn => rfl); (case p => (first | ((repeat (first | with_reducible exact Pull.head | with_reducible apply Pull.tail)); done) | (repeat (first | exact Pull.head | apply Pull.tail)))))
    · refine Ws ?_
      refine Zz 30 false ?_
      refine Ws ?_
      refine Zi 4 (((k + 1) * 64 : Nat) : Int) ?_ (hi := by omega)
      exact Zag ⟨k + 1, by omega⟩
    · refine Ws ?_
      refine Zz 30 true ?_
      refine Ws ?_
      (first | with_reducible apply Tri.fin | with_reducible apply Tri.finN)
      case hr => rfl
      case h => exact ResL.nil
      exact fun w' hw' => .inr ⟨(hw'.pulls (As := [J, blk b2 86 [.slice A m c], blk b3 3 [.int .i64 64], Ex h0]) Wps).1, Sat.left (hw'.pulls Wps).2⟩
  · obtain rfl : k = m / 64 := by omega
    refine Ws ?_
    (first | with_reducible apply Tri.fin | with_reducible apply Tri.finN)
    case hr => rfl
    case h => exact ResL.nil
    exact fun w' hw' => .inl ⟨(hw'.pulls (As := [I (m / 64), blk b2 86 [.slice A m c], blk b3 3 [.int .i64 64], Ex h0]) Wps).1, Sat.left (hw'.pulls Wps).2⟩
end Go.Proofs.YtcglabmlhljkmaaGreat
end
section
/- The sum as plain functions. -/
namespace Go.Gv
def crcBit (n : UInt32) : UInt32 := (n >>> 1) ^^^ (0x82F63B78 &&& (0 - (n &&& 1)))
def crcBits : Nat → UInt32 → UInt32
  | 0, n => n
  | k + 1, n => crcBits k (crcBit n)
def crcTab (i : Nat) : UInt32 := crcBits 8 (UInt32.ofNat i)
def crcByte (n : UInt32) (c : UInt8) : UInt32 := (n >>> 8) ^^^ crcTab (n.toUInt8 ^^^ c).toNat
def crcFold (n : UInt32) (l : List UInt8) : UInt32 := l.foldl crcByte n
def crcBehind (sum : UInt32) (l : List UInt8) : UInt32 := ~~~ (crcFold (~~~ sum) l)
def crcSum (l : List UInt8) : UInt32 := crcBehind 0 l
theorem crcBits_succ (k : Nat) (n : UInt32) : crcBits (k + 1) n = crcBit (crcBits k n) := by
  induction k generalizing n with
  | zero => rfl
  | succ k ih => exact ih (crcBit n)
end Go.Gv
end
section
/- crc: what its functions answer. -/
namespace Go.Proofs.YtcglabmlhljkmaaGreat
open Go Go.RowKit Go.Gv
set_option linter.unusedVariables false

/-- bytes as cells -/
def B8 (l : List UInt8) : List Value := l.map fun c => .int .u8 (c.toNat : Int)
theorem B8_length (l : List UInt8) : (B8 l).length = l.length := by simp [B8]
theorem B8_sub (l : List UInt8) (lo hi : Nat) : ((B8 l).drop (lo * 1)).take ((hi - lo) * 1) = B8 ((l.drop lo).take (hi - lo)) := by simp [B8, List.map_take, List.map_drop]
theorem B8_append (a b : List UInt8) : B8 (a ++ b) = B8 a ++ B8 b := by simp [B8]
theorem B8_get (l : List UInt8) (j : Nat) (h : j < l.length) : (B8 l)[j]? = some (.int .u8 (l[j].toNat : Int)) := by simp [B8, h]
def tabL : List Value := (List.range 256).map fun i => .int .u32 ((crcTab i).toNat : Int)
theorem tabL_get (j : Nat) (h : j < 256) : tabL[j]? = some (.int .u32 ((crcTab j).toNat : Int)) := by simp [tabL, h]
def tabV : Value := .agg tabL.toArray
theorem foldl_take {α β : Type} (f : β → α → β) (b : β) (l : List α) (k : Nat) (h : k < l.length) : (l.take (k + 1)).foldl f b = f ((l.take k).foldl f b) l[k] := by
  rw [List.take_succ_eq_append_getElem h, List.foldl_append]; rfl

set_option maxHeartbeats 400000 in
theorem crc_Behind (sum : UInt32) (v : Value) (l : List UInt8) :
    SpecR Tryz.prog 136 #[tabV, .int .u32 (sum.toNat : Int), v] (fun w => RdW w v l.length (B8 l)) (fun r H' => r = .int .u32 ((crcBehind sum l).toNat : Int) ∧ H' = []) := by
  refine SpecR.of (fun w hr => ?_)
  have hlen := hr.le
  refine Calls.enter Tryz.func136 rfl rfl rfl (St.rebase w) ?_
  simp only [argSlots]
  refine Ws ?_
  (refine Wbx ?_; intro bt)
  refine Ws ?_
  refine Zi 7 ((~~~ sum).toNat : Int) ?_ (hi := by exact com32 sum)
  refine o_lenRd rfl hr rfl ?_
  refine Ws ?_
  (refine Wl (α := { k : Nat // k ≤ l.length }) (fun x => l.length - x.1) (fun x => [(3, .pointer (some ⟨bt, 0, none⟩)), (7, .int .u32 ((crcFold (~~~ sum) (l.take x.1)).toNat : Int)), (12, v), (13, .int .i64 (l.length : Int)), (14, .int .i64 (x.1 : Int))]) (fun x => [blk bt 70 tabL, Ex (hp w)]) ⟨0, Nat.zero_le _⟩ ?_; rintro ⟨k, hk⟩ mx hmx; (try dsimp only at hmx ⊢))
  refine Ws ?_
  (refine Wcd ?_ ?_ <;> intro h)
  · have hk' : k < l.length := by omega
    refine Ws ?_
    refine Zir (hr := hr) ?_ (hl := by rw [B8_length]; omega)
    refine Ws ?_
    refine Zlr (hr := hr) ?_ (hv := by exact (by rw [Nat.mul_one]; exact B8_get l k hk'))
    refine Ws ?_
    refine Zi 23 (((crcFold (~~~sum) (l.take k)).toUInt8 ^^^ l[k]).toNat : Int) ?_ (hi := by rw [← wrapu8, low8, xor8])
    refine Zia ?_ (hlt := by exact UInt8.toNat_lt _)
    refine ZTriop ?_
    refine Zl ?_ (hv := by exact (by rw [Nat.zero_add, Nat.mul_one]; exact tabL_get _ (UInt8.toNat_lt _)))
    refine Ws ?_
    refine Zi 7 ((crcFold (~~~sum) (l.take (k + 1))).toNat : Int) ?_ (hi := by unfold crcFold; rw [foldl_take _ _ _ _ hk', crcByte, shr32 _ 8 (by omega) 8 rfl, xor32]; rfl)
    exact Zag ⟨k + 1, Nat.succ_le_of_lt hk'⟩
  · refine Ws ?_
    have e : k = l.length := by omega
    subst e
    refine Zfn [] (hq := ?_)
    exact ⟨by rw [com32, List.take_length]; rfl, rfl⟩

theorem B8_one (l : List UInt8) : ∀ y ∈ B8 l, y.oneCell' = true := by
  intro y hy; simp [B8] at hy; obtain ⟨c, _, rfl⟩ := hy; rfl
theorem tabL_one : ∀ y ∈ tabL, y.oneCell' = true := by
  intro y hy; simp [tabL] at hy; obtain ⟨c, _, rfl⟩ := hy; rfl
theorem tabL_length : tabL.length = 256 := by simp [tabL]

set_option maxHeartbeats 400000 in
theorem crc_Sum (v : Value) (l : List UInt8) :
    SpecR Tryz.prog 90 #[tabV, v] (fun w => RdW w v l.length (B8 l)) (fun r H' => r = .int .u32 ((crcSum l).toNat : Int) ∧ H' = []) := by
  refine SpecR.of (fun w hr => ?_)
  refine Calls.enter Tryz.func90 rfl rfl rfl (St.rebase w) ?_
  simp only [argSlots]
  refine Ws ?_
  (refine Wbx ?_; intro bt)
  refine Ws ?_
  refine Zla ?_ (hl := by exact tabL_length)
  refine Ws ?_
  refine Zcr (crc_Behind 0 v l) ?_ (hpre := by exact rdw_ex Wp hr)
  rintro v_ H_ ⟨rfl, rfl⟩
  refine Ws ?_
  refine Zfn [] (hq := ?_)
  exact ⟨rfl, rfl⟩

theorem crc_bit_run (j : Nat) (x : UInt32) :
    Go.bits .xor .u32 (((crcBits j x).toNat : Int) / 2 ^ min (Int.toNat 1) IntKind.u32.bits) (Go.bits .and .u32 2197175160 (IntKind.u32.wrap (0 - Go.bits .and .u32 ((crcBits j x).toNat : Int) 1))) = ((crcBits (j + 1) x).toNat : Int) := by
  have h1 : Go.bits .and .u32 ((crcBits j x).toNat : Int) 1 = (((crcBits j x) &&& 1).toNat : Int) := and32 _ 1
  rw [h1, neg32, show (2197175160 : Int) = ((0x82F63B78 : UInt32).toNat : Int) from rfl, and32, shr32 _ 1 (by omega) 1 rfl, xor32, crcBits_succ]
  rfl

/-- the table as far as it is made -/
def tabTo (k : Nat) : List Value := (List.range k).map (fun i => .int .u32 ((crcTab i).toNat : Int)) ++ List.replicate (256 - k) (.int .u32 0)
theorem tabTo_length (k : Nat) (h : k ≤ 256) : (tabTo k).length = 256 := by simp [tabTo]; omega
theorem tabTo_256 : tabTo 256 = tabL := by unfold tabTo tabL; rw [Nat.sub_self, List.replicate_zero, List.append_nil]
theorem tabTo_set (k : Nat) (h : k < 256) : (tabTo k).set k (.int .u32 ((crcTab k).toNat : Int)) = tabTo (k + 1) := by
  unfold tabTo
  have e : 256 - k = (256 - (k + 1)) + 1 := by omega
  rw [List.set_append_right _ _ (by simp), e, List.replicate_succ, List.range_succ]
  simp

set_option maxHeartbeats 400000 in
theorem crc_New : SpecR Tryz.prog 27 #[] (fun _ => True) (fun r H' => r = tabV ∧ H' = []) := by
  refine SpecR.of (fun w _ => ?_)
  refine Calls.enter Tryz.func27 rfl rfl rfl (St.rebase w) ?_
  simp only [argSlots]
  refine Ws ?_
  refine Zal fun br => ?_
  refine Ws ?_
  refine Zal fun bt => ?_
  refine Ws ?_
  refine Zat (blk bt 70 (List.replicate 256 (.int .u32 0))) (blk bt 70 (tabTo 0)) ?_
  (refine Wl (α := { k : Nat // k ≤ 256 }) (fun x => 256 - x.1) (fun x => [(0, .pointer (some ⟨br, 0, none⟩)), (1, .pointer (some ⟨bt, 0, none⟩)), (4, .int .i64 (x.1 : Int))]) (fun x => [blk br 70 (List.replicate 256 (.int .u32 0)), blk bt 70 (tabTo x.1), Ex (hp w)]) ⟨0, Nat.zero_le _⟩ ?_; rintro ⟨k, hk⟩ mx hmx; (try dsimp only at hmx ⊢))
  refine Ws ?_
  (refine Wcd ?_ ?_ <;> intro h)
  · refine Ws ?_
    have hk' : k < 256 := by omega
    refine Zi 3 ((crcBits 0 (UInt32.ofNat k)).toNat : Int) ?_ (hi := by simp only [crcBits, UInt32.toNat_ofNat']; omega)
    (refine Wl (α := { j : Nat // j ≤ 8 }) (fun x => 8 - x.1) (fun x => [(0, .pointer (some ⟨br, 0, none⟩)), (1, .pointer (some ⟨bt, 0, none⟩)), (4, .int .i64 (k : Int)), (2, .int .i64 (k : Int)), (9, .int .i64 (x.1 : Int)), (3, .int .u32 ((crcBits x.1 (UInt32.ofNat k)).toNat : Int))]) (fun _ => [blk br 70 (List.replicate 256 (.int .u32 0)), blk bt 70 (tabTo k), Ex (hp w)]) ⟨0, Nat.zero_le _⟩ ?_; rintro ⟨j, hj⟩ mx hmx; (try dsimp only at hmx ⊢))
    refine Ws ?_
    (refine Wcd ?_ ?_ <;> intro h2)
    · refine Ws ?_
      refine Zi 3 ((crcBits (j + 1) (UInt32.ofNat k)).toNat : Int) ?_ (hi := by exact crc_bit_run j _)
      exact Zag ⟨j + 1, by omega⟩
    · have e : j = 8 := by omega
      subst e
      refine Ws ?_
      refine ZS ?_ (hi := by rw [tabTo_length k hk]; omega)
      refine Zat (blk bt 70 _) (blk bt 70 (tabTo (k + 1))) ?_ (e := by rw [Nat.zero_add, Nat.mul_one]; exact congrArg _ (tabTo_set k hk'))
      refine Ws ?_
      exact Zag ⟨k + 1, by omega⟩
  · have e : k = 256 := by omega
    subst e
    refine Ws ?_
    refine Zat (blk bt 70 (tabTo 256)) (blk bt 70 tabL) ?_ (e := by show blk bt 70 (tabTo 256) = _; rw [tabTo_256])
    refine Zla ?_ (hl := by exact tabL_length)
    refine Ws ?_
    refine ZSa ?_ (hl := by exact tabL_length) (hc := by exact List.length_replicate) (h1 := by exact tabL_one)
    refine Ws ?_
    (first | with_reducible apply Tri.fin | with_reducible apply Tri.finN)
    case hr => rfl
    case h => exact ResL.cons (Res1.agg rfl Wp (by rw [List.drop_zero]; exact List.take_of_length_le (Nat.le_of_eq tabL_length)) tabL_length) ResL.nil
    apply fin_R (Hn := [])
    case p => exact Wps
    exact ⟨rfl, rfl⟩
end Go.Proofs.YtcglabmlhljkmaaGreat
end
section
/- disk: what its functions compute, in plain terms. -/
namespace Go.Proofs.YtcglabmlhljkmaaGreat
open Go Go.RowKit Go.Gv
set_option linter.unusedVariables false
set_option linter.unusedSimpArgs false

/-- a write that waits: its sector, the slice that holds its bytes, these bytes -/
structure WW where
  i : Nat
  v : Value
  b : List UInt8
def WL (W : List WW) : List Value := W.flatMap fun x => [.int .i64 (x.i : Int), x.v]
def WT (W : List WW) : List (Value × Nat × List Value) := W.map fun x => (x.v, x.b.length, B8 x.b)
theorem WL_drop : ∀ (W : List WW) (k : Nat), (WL W).drop (k * 2) = WL (W.drop k)
  | W, 0 => rfl
  | [], k + 1 => by simp [WL]
  | x :: W, k + 1 => by
    rw [show (k + 1) * 2 = k * 2 + 2 by omega, ← List.drop_drop, List.drop_drop, Nat.add_comm, ← List.drop_drop]
    exact WL_drop W k
theorem WL_two (W : List WW) (k : Nat) (h : k < W.length) : ((WL W).drop (k * 2)).take 2 = [.int .i64 ((W[k]'h).i : Int), (W[k]'h).v] := by
  rw [WL_drop, List.drop_eq_getElem_cons h]; rfl
theorem WL_get0 (W : List WW) (k : Nat) (h : k < W.length) : (WL W)[k * 2 + 0]? = some (.int .i64 ((W[k]'h).i : Int)) := by
  have := WL_drop W k
  have e : ((WL W).drop (k * 2))[0]? = (WL W)[k * 2 + 0]? := List.getElem?_drop
  rw [← e, this, List.drop_eq_getElem_cons h]; rfl
theorem WL_get1 (W : List WW) (k : Nat) (h : k < W.length) : (WL W)[k * 2 + 1]? = some (W[k]'h).v := by
  have := WL_drop W k
  have e : ((WL W).drop (k * 2))[1]? = (WL W)[k * 2 + 1]? := List.getElem?_drop
  rw [← e, this, List.drop_eq_getElem_cons h]; rfl
theorem WL_append (V W : List WW) : WL (V ++ W) = WL V ++ WL W := by simp [WL]
theorem WT_append (V W : List WW) : WT (V ++ W) = WT V ++ WT W := by simp [WT]
theorem WT_mem (W : List WW) (k : Nat) (h : k < W.length) : ((W[k]'h).v, (W[k]'h).b.length, B8 (W[k]'h).b) ∈ WT W := List.mem_map.2 ⟨_, List.getElem_mem h, rfl⟩
/-- each waits for a sector that is there, and has 64 bytes -/
def WOk (N : Nat) (W : List WW) : Prop := ∀ x ∈ W, x.i * 64 + 64 ≤ N ∧ x.b.length = 64
theorem WOk.nil (N : Nat) : WOk N [] := fun x hx => by simp at hx
theorem WOk.get {N : Nat} {W : List WW} (h : WOk N W) {k : Nat} (hk : k < W.length) : (W[k]'hk).i * 64 + 64 ≤ N ∧ (W[k]'hk).b.length = 64 := h _ (List.getElem_mem hk)
theorem WOk.add {N : Nat} {W : List WW} (h : WOk N W) {i : Nat} {v : Value} {b : List UInt8} (hi : i * 64 + 64 ≤ N) (hb : b.length = 64) : WOk N (W ++ [⟨i, v, b⟩]) := fun x hx => by
  rcases List.mem_append.1 hx with hx | hx
  · exact h x hx
  · simp at hx; subst hx; exact ⟨hi, hb⟩
/-- may: the error -/
def mayE (off : Bool) (N : Nat) (i : Int) : Nat := if off then 2 else if i < 0 ∨ ((N / 64 : Nat) : Int) ≤ i then 1 else 0
/-- put bytes at a place -/
def putAt (A : List UInt8) (at_ : Nat) (b : List UInt8) : List UInt8 := A.take at_ ++ b ++ A.drop (at_ + b.length)
theorem putAt_length (A : List UInt8) (at_ : Nat) (b : List UInt8) (h : at_ + b.length ≤ A.length) : (putAt A at_ b).length = A.length := by simp [putAt]; omega
theorem putAt_B8 (A : List UInt8) (at_ : Nat) (b : List UInt8) (n : Nat) (hn : n = b.length) : (B8 A).take at_ ++ B8 b ++ (B8 A).drop (at_ + n) = B8 (putAt A at_ b) := by
  subst hn; simp [B8, putAt, List.map_take, List.map_drop]
/-- the last write that waits for a sector, of the first k -/
def lastW (W : List WW) (i : Int) : Nat → Option (List UInt8)
  | 0 => none
  | k + 1 => match W[k]? with
    | some x => if (x.i : Int) = i then some x.b else lastW W i k
    | none => lastW W i k
theorem lastW_hit {W : List WW} {i : Int} {k : Nat} (h : k < W.length) (e : ((W[k]'h).i : Int) = i) : lastW W i (k + 1) = some (W[k]'h).b := by
  rw [lastW, List.getElem?_eq_getElem h]; simp [e]
theorem lastW_miss {W : List WW} {i : Int} {k : Nat} (h : k < W.length) (e : ¬ ((W[k]'h).i : Int) = i) : lastW W i (k + 1) = lastW W i k := by
  rw [lastW, List.getElem?_eq_getElem h]; simp [e]
def readM (A : List UInt8) (W : List WW) (i : Int) : List UInt8 := (lastW W i W.length).getD ((A.drop (i.toNat * 64)).take 64)
/-- all that waits is done -/
def flushM (A : List UInt8) (W : List WW) : List UInt8 := W.foldl (fun A x => putAt A (x.i * 64) x.b) A
theorem flush_length {N : Nat} : ∀ (W : List WW) (A : List UInt8), WOk N W → A.length = N → (flushM A W).length = N
  | [], A, _, h => h
  | x :: W, A, hW, h => by
    have hx := hW x (List.mem_cons_self ..)
    exact flush_length W _ (fun y hy => hW y (List.mem_cons_of_mem _ hy)) (by rw [putAt_length _ _ _ (by omega), h])
/-- one write by its fate, of the first k parts -/
def keepTo (A : List UInt8) (i : Nat) (b : List UInt8) (atoms : UInt8) : Nat → List UInt8
  | 0 => A
  | k + 1 => if bit8' atoms k then putAt (keepTo A i b atoms k) (i * 64 + k * 8) ((b.drop (k * 8)).take 8) else keepTo A i b atoms k
where bit8' (x : UInt8) (j : Nat) : Bool := decide (Go.bits .and .u8 ((x.toNat : Int) / 2 ^ min (((j : Nat) : Int)).toNat IntKind.u8.bits) 1 = 1)
def keepM (A : List UInt8) (i : Nat) (b : List UInt8) (f : Bool × UInt8) : List UInt8 := if f.1 then keepTo A i b f.2 8 else A
def crashTo (A : List UInt8) (W : List WW) (F : List (Bool × UInt8)) : Nat → List UInt8
  | 0 => A
  | k + 1 => match W[k]?, F[k]? with
    | some x, some f => keepM (crashTo A W F k) x.i x.b f
    | _, _ => crashTo A W F k
def crashM (A : List UInt8) (W : List WW) (F : List (Bool × UInt8)) : List UInt8 := crashTo A W F W.length
end Go.Proofs.YtcglabmlhljkmaaGreat
end
section
/- disk: what its small functions answer. -/
namespace Go.Proofs.YtcglabmlhljkmaaGreat
open Go Go.RowKit Go.Gv
set_option linter.unusedVariables false
set_option linter.unusedSimpArgs false

theorem B8_len1 (l : List UInt8) : (B8 l).length = l.length * 1 := by rw [B8_length, Nat.mul_one]
set_option maxHeartbeats 1000000 in
theorem bytes_Clone (v : Value) (l : List UInt8) (hb : l.length ≤ 1000000) : SpecR Tryz.prog 86 #[v] (fun w => RdW w v l.length (B8 l)) (fun r H' => H' = [own 5 1 r l.length (B8 l)]) := by
  refine SpecR.of (fun w hr => ?_)
  refine Calls.enter Tryz.func86 rfl rfl rfl (St.rebase w) ?_
  simp only [argSlots]
  refine Ws ?_
  refine ZoeqlSN ?_ (hr := by exact rdw_ex Wp hr)
  intro b hbl
  cases b
  · refine Ws ?_
    (refine Zli (ys := []) ?_; intro vr)
    refine Ws ?_
    refine Zap ?_ (hr := by exact rdw_ex Wp hr) (hl := by exact B8_len1 l) (h1 := by exact B8_one l)
    intro v'
    refine Ws ?_
    ((with_reducible apply Tri.eqA (A := own 5 1 v' _ _) (B := own 5 1 v' l.length (B8 l))); (case p => (first | ((repeat (first | with_reducible exact Pull.head | with_reducible apply Pull.tail)); done) | (repeat (first | exact Pull.head | apply Pull.tail)))); (case e => (rw [Nat.zero_add, List.nil_append])))
    refine Zfn [own 5 1 v' l.length (B8 l)] (hq := ?_)
    simp only [tupled]
  · have hl : l = [] := by
      have := hbl rfl
      cases l with
      | nil => rfl
      | cons x l => simp [B8] at this
    subst hl
    refine Ws ?_
    (with_reducible apply Tri.ownNil 5 1)
    refine Zfn [own 5 1 (.slice none 0 0) 0 []] (hq := ?_)
    rfl

set_option maxHeartbeats 1000000 in
theorem disk_may (p a : Nat) (N : Nat) (vw : Value) (off : Bool) (till i : Int) (hN : N ≤ 1000000) : Gv.Spec Tryz.prog 169 #[.pointer (some ⟨p, 0, none⟩), .int .i64 i] [blk p 153 [.slice (some ⟨a, 0, none⟩) N N, vw, .bool off, .int .i64 till]]
    (fun r H' => r = .int .i64 (mayE off N i : Int) ∧ H' = [blk p 153 [.slice (some ⟨a, 0, none⟩) N N, vw, .bool off, .int .i64 till]]) := by
  refine Gv.Spec.of (fun w h0 hw => ?_)
  refine Calls.enter Tryz.func169 rfl rfl rfl hw ?_
  simp only [argSlots]
  refine Wap ?_
  refine Ws ?_
  refine Zz 5 false ?_
  refine Ws ?_
  (refine Wcb ?_ ?_ <;> intro h1)
  · refine Ws ?_
    refine Zfn [blk p 153 [.slice (some ⟨a, 0, none⟩) N N, vw, .bool off, .int .i64 till]] (hq := ?_)
    exact ⟨by rw [mayE, h1]; rfl, rfl⟩
  · refine Ws ?_
    (refine ZcB 16 ?_ ?_ <;> intro h2)
    · have h2' := of_decide_eq_true h2
      refine Ws ?_
      refine Zfn [blk p 153 [.slice (some ⟨a, 0, none⟩) N N, vw, .bool off, .int .i64 till]] (hq := ?_)
      exact ⟨by rw [mayE, h1, if_neg (by simp), if_pos (.inl h2')]; rfl, rfl⟩
    · have h2' := of_decide_eq_false h2
      refine Ws ?_
      (refine Wcd ?_ ?_ <;> intro h3)
      · refine Ws ?_
        refine Zfn [blk p 153 [.slice (some ⟨a, 0, none⟩) N N, vw, .bool off, .int .i64 till]] (hq := ?_)
        exact ⟨by rw [mayE, h1, if_neg (by simp), if_pos (.inr (by omega))]; rfl, rfl⟩
      · refine Ws ?_
        refine Zfn [blk p 153 [.slice (some ⟨a, 0, none⟩) N N, vw, .bool off, .int .i64 till]] (hq := ?_)
        exact ⟨by rw [mayE, h1, if_neg (by simp), if_neg (by omega)]; rfl, rfl⟩

set_option maxHeartbeats 1000000 in
theorem disk_sector (p a : Nat) (N i : Nat) (vw : Value) (off : Bool) (till : Int) (hN : N ≤ 1000000) (hi : i * 64 + 64 ≤ N) : Gv.Spec Tryz.prog 125 #[.pointer (some ⟨p, 0, none⟩), .int .i64 (i : Int)] [blk p 153 [.slice (some ⟨a, 0, none⟩) N N, vw, .bool off, .int .i64 till]]
    (fun r H' => r = .slice (some ⟨a, i * 64, none⟩) 64 (N - i * 64) ∧ H' = [blk p 153 [.slice (some ⟨a, 0, none⟩) N N, vw, .bool off, .int .i64 till]]) := by
  refine Gv.Spec.of (fun w h0 hw => ?_)
  refine Calls.enter Tryz.func125 rfl rfl rfl hw ?_
  simp only [argSlots]
  refine Wap ?_
  refine Ws ?_
  refine Zi 10 ((i * 64 : Nat) : Int) ?_ (hi := by omega)
  refine Zi 13 ((i * 64 + 64 : Nat) : Int) ?_ (hi := by omega)
  refine ZosliceB (lo := i * 64) (hi := i * 64 + 64) ?_ (hne := by omega)
  refine Ws ?_
  refine Zfn [blk p 153 [.slice (some ⟨a, 0, none⟩) N N, vw, .bool off, .int .i64 till]] (hq := ?_)
  refine ⟨?_, rfl⟩
  simp only [tupled]
  congr 1
  · congr 1; congr 1; omega
  · omega

/-- does power go? what is till then? -/
def stopB (till : Int) : Bool := decide (till = 0)
def stopT (till : Int) : Int := if till = 0 then -1 else max (till - 1) (-1)
set_option maxHeartbeats 1000000 in
theorem disk_stops (p : Nat) (va vw : Value) (off : Bool) (till : Int) (ht : -1 ≤ till ∧ till ≤ 9223372036854775807) : Gv.Spec Tryz.prog 124 #[.pointer (some ⟨p, 0, none⟩)] [blk p 153 [va, vw, .bool off, .int .i64 till]]
    (fun r H' => r = .bool (stopB till) ∧ H' = [blk p 153 [va, vw, .bool (off || stopB till), .int .i64 (stopT till)]]) := by
  refine Gv.Spec.of (fun w h0 hw => ?_)
  refine Calls.enter Tryz.func124 rfl rfl rfl hw ?_
  simp only [argSlots]
  refine Wap ?_
  refine Ws ?_
  (refine Wcd ?_ ?_ <;> intro h1)
  · refine Ws ?_
    refine ZS ?_ (hi := by show 2 < 4; omega)
    refine Ws ?_
    refine ZS ?_ (hi := by show 3 < 4; omega)
    refine Ws ?_
    refine Zfn [blk p 153 [va, vw, .bool true, .int .i64 (-1)]] (hq := ?_)
    exact ⟨by rw [stopB, decide_eq_true h1]; rfl, by rw [stopB, stopT, if_pos h1, decide_eq_true h1, Bool.or_true]⟩
  · refine Ws ?_
    refine ZS ?_ (hi := by show 3 < 4; omega)
    refine Ws ?_
    refine Zfn [blk p 153 [va, vw, .bool off, .int .i64 (max (till - 1) (-1))]] (hq := ?_)
    exact ⟨by rw [stopB, decide_eq_false h1]; rfl, by rw [stopB, stopT, if_neg h1, decide_eq_false h1, Bool.or_false]⟩

end Go.Proofs.YtcglabmlhljkmaaGreat
end
section
/- A disk by what it says: its image, what waits, and all of it in one (plain terms). -/
namespace Go.Proofs.YtcglabmlhljkmaaGreat
open Go Go.RowKit Go.Gv
set_option linter.unusedVariables false
set_option linter.unusedSimpArgs false

/-- a disk: what stays, what waits, is it off, when it falls -/
structure DS where
  A : List UInt8
  W : List (Nat × List UInt8)
  off : Bool
  till : Int
def WP2 (W : List WW) : List (Nat × List UInt8) := W.map fun x => (x.i, x.b)
/-- all that waits done -/
def flW (A : List UInt8) (W : List (Nat × List UInt8)) : List UInt8 := W.foldl (fun A x => putAt A (x.1 * 64) x.2) A
def DS.V (S : DS) : List UInt8 := flW S.A S.W
def DS.ok (S : DS) : Prop := S.A.length ≤ 1000000 ∧ (-1 ≤ S.till ∧ S.till ≤ 9223372036854775807) ∧ ∀ x ∈ S.W, x.1 * 64 + 64 ≤ S.A.length ∧ x.2.length = 64
theorem flW_WP (A : List UInt8) (W : List WW) : flW A (WP2 W) = flushM A W := by
  unfold flW WP2 flushM
  rw [List.foldl_map]
theorem flW_length : ∀ (W : List (Nat × List UInt8)) (A : List UInt8), (∀ x ∈ W, x.1 * 64 + 64 ≤ A.length ∧ x.2.length = 64) → (flW A W).length = A.length
  | [], A, _ => rfl
  | x :: W, A, h => by
    have hx := h x (List.mem_cons_self ..)
    have hl := putAt_length A (x.1 * 64) x.2 (by omega)
    show (flW (putAt A (x.1 * 64) x.2) W).length = _
    rw [flW_length W _ (fun y hy => by rw [hl]; exact h y (List.mem_cons_of_mem _ hy)), hl]
theorem DS.V_length {S : DS} (h : S.ok) : S.V.length = S.A.length := flW_length _ _ h.2.2
theorem flW_append (A : List UInt8) (W W' : List (Nat × List UInt8)) : flW A (W ++ W') = flW (flW A W) W' := by unfold flW; rw [List.foldl_append]
/-- a sector -/
def sec (V : List UInt8) (i : Nat) : List UInt8 := (V.drop (i * 64)).take 64
theorem sec_put_same (A : List UInt8) (i : Nat) (b : List UInt8) (hi : i * 64 + 64 ≤ A.length) (hb : b.length = 64) : sec (putAt A (i * 64) b) i = b := by
  unfold sec putAt
  rw [List.append_assoc, List.drop_append_of_le_length (by rw [List.length_take]; omega), List.drop_of_length_le (by rw [List.length_take]; omega), List.nil_append, List.take_left' hb]
theorem sec_put_other (A : List UInt8) (i j : Nat) (b : List UInt8) (hi : i * 64 + 64 ≤ A.length) (hb : b.length = 64) (hj : j ≠ i) : sec (putAt A (i * 64) b) j = sec A j := by
  unfold sec
  apply List.ext_getElem?
  intro k
  rw [List.getElem?_take, List.getElem?_take]
  split
  · rename_i hk
    rw [List.getElem?_drop, List.getElem?_drop]
    unfold putAt
    have hlt : (A.take (i * 64)).length = i * 64 := by rw [List.length_take]; omega
    by_cases hji : j < i
    · have : j * 64 + k < i * 64 := by
        have : (j + 1) * 64 ≤ i * 64 := Nat.mul_le_mul_right 64 hji
        omega
      rw [List.append_assoc, List.getElem?_append_left (by omega), List.getElem?_take, if_pos this]
    · have : i * 64 + 64 ≤ j * 64 + k := by
        have : (i + 1) * 64 ≤ j * 64 := Nat.mul_le_mul_right 64 (by omega)
        omega
      rw [List.getElem?_append_right (by rw [List.length_append]; omega), List.getElem?_drop, List.length_append, hlt, hb]
      congr 1; omega
  · rfl
theorem lastW_sec {N : Nat} : ∀ (k : Nat) (W : List WW) (A : List UInt8), A.length = N → (∀ x ∈ W, x.i * 64 + 64 ≤ N ∧ x.b.length = 64) → ∀ i : Nat, k ≤ W.length → (lastW W (i : Int) k).getD (sec A i) = sec (flushM A (W.take k)) i
  | 0, W, A, _, _, i, _ => rfl
  | k + 1, W, A, hA, hW, i, hk => by
    have hlt : k < W.length := by omega
    have hx := hW _ (List.getElem_mem hlt)
    have hfl : (flushM A (W.take k)).length = N := flush_length _ _ (fun y hy => hW y (List.mem_of_mem_take hy)) hA
    have ht : flushM A (W.take (k + 1)) = putAt (flushM A (W.take k)) ((W[k]'hlt).i * 64) (W[k]'hlt).b := by
      rw [flushM, List.take_succ_eq_append_getElem hlt, List.foldl_append]; rfl
    rw [ht]
    by_cases e : (W[k]'hlt).i = i
    · rw [lastW_hit hlt (by omega), ← e, sec_put_same _ _ _ (by omega) hx.2]; rfl
    · rw [lastW_miss hlt (by omega), sec_put_other _ _ _ _ (by omega) hx.2 (by omega)]
      exact lastW_sec k W A hA hW i (by omega)
theorem readM_sec {A : List UInt8} {W : List WW} (hW : WOk A.length W) (i : Nat) : readM A W (i : Int) = sec (flushM A W) i := by
  have := lastW_sec W.length W A rfl hW i (Nat.le_refl _)
  rw [List.take_length] at this
  rw [← this]; rfl
/-- a write: the disk behind it, and the error -/
def DS.wr (S : DS) (i : Int) (b : List UInt8) : DS × Nat :=
  if mayE S.off S.A.length i ≠ 0 then (S, mayE S.off S.A.length i) else if b.length ≠ 64 then (S, 1) else if S.till = 0 then ({ S with off := true, till := -1 }, 2) else ({ S with W := S.W ++ [(i.toNat, b)], till := stopT S.till }, 0)
/-- sector by sector, up to an error -/
def DS.wrs (S : DS) (i : Int) : List (List UInt8) → DS × Nat
  | [] => (S, 0)
  | b :: bs => if (S.wr i b).2 = 0 then (S.wr i b).1.wrs (i + 1) bs else S.wr i b
theorem mayD_ok {off : Bool} {N : Nat} {i : Int} (h : mayE off N i = 0) : off = false ∧ 0 ≤ i ∧ i.toNat * 64 + 64 ≤ N := by
  unfold mayE at h
  cases off
  · simp only [Bool.false_eq_true, if_false] at h
    split at h
    · cases h
    · exact ⟨rfl, by omega, by omega⟩
  · simp at h
theorem mayD_of {N i : Nat} (h : i * 64 + 64 ≤ N) : mayE false N (i : Int) = 0 := by
  unfold mayE
  rw [if_neg (by simp), if_neg (by omega)]
theorem DS.wr_ok {S : DS} (h : S.ok) (i : Int) (b : List UInt8) : (S.wr i b).1.ok := by
  unfold DS.wr
  split
  · exact h
  · rename_i hm
    obtain ⟨_, h1, h2⟩ := mayD_ok (Classical.byContradiction hm)
    split
    · exact h
    · split
      · exact ⟨h.1, by simp, h.2.2⟩
      · refine ⟨h.1, ?_, fun x hx => ?_⟩
        · have := h.2.1
          show -1 ≤ stopT S.till ∧ stopT S.till ≤ 9223372036854775807
          unfold stopT; split <;> omega
        · rcases List.mem_append.1 hx with hx | hx
          · exact h.2.2 x hx
          · simp at hx; subst hx; exact ⟨h2, by show b.length = 64; omega⟩
theorem DS.wr_len (S : DS) (i : Int) (b : List UInt8) : (S.wr i b).1.W.length ≤ S.W.length + 1 ∧ (S.wr i b).1.A = S.A := by
  unfold DS.wr
  repeat' split
  all_goals simp
theorem DS.wrs_snoc : ∀ (bs : List (List UInt8)) (S : DS) (i : Int) (b : List UInt8), (S.wrs i bs).2 = 0 → S.wrs i (bs ++ [b]) = (S.wrs i bs).1.wr (i + bs.length) b
  | [], S, i, b, _ => by
    show (if (S.wr i b).2 = 0 then ((S.wr i b).1, 0) else S.wr i b) = S.wr (i + 0) b
    rw [Int.add_zero]
    split
    · rename_i h; rw [← h]
    · rfl
  | c :: bs, S, i, b, h => by
    show (if (S.wr i c).2 = 0 then (S.wr i c).1.wrs (i + 1) (bs ++ [b]) else S.wr i c) = _
    have hu : S.wrs i (c :: bs) = if (S.wr i c).2 = 0 then (S.wr i c).1.wrs (i + 1) bs else S.wr i c := rfl
    rw [hu] at h ⊢
    by_cases hc : (S.wr i c).2 = 0
    · rw [if_pos hc] at h ⊢
      rw [if_pos hc, DS.wrs_snoc bs _ _ b h]
      congr 1
      rw [List.length_cons]; omega
    · rw [if_neg hc] at h
      exact absurd h hc
/-- where one is an error the rest is not done -/
theorem DS.wrs_stop : ∀ (bs cs : List (List UInt8)) (S : DS) (i : Int), (S.wrs i bs).2 ≠ 0 → S.wrs i (bs ++ cs) = S.wrs i bs
  | [], _, _, _, h => absurd rfl h
  | b :: bs, cs, S, i, h => by
    show (if (S.wr i b).2 = 0 then (S.wr i b).1.wrs (i + 1) (bs ++ cs) else S.wr i b) = if (S.wr i b).2 = 0 then (S.wr i b).1.wrs (i + 1) bs else S.wr i b
    have hu : S.wrs i (b :: bs) = if (S.wr i b).2 = 0 then (S.wr i b).1.wrs (i + 1) bs else S.wr i b := rfl
    rw [hu] at h
    by_cases hc : (S.wr i b).2 = 0
    · rw [if_pos hc] at h ⊢
      rw [if_pos hc]; exact DS.wrs_stop bs cs _ _ h
    · rw [if_neg hc, if_neg hc]
theorem putAt_putAt (A : List UInt8) (i : Nat) (b c : List UInt8) (h : i ≤ A.length) : putAt (putAt A i b) (i + b.length) c = putAt A i (b ++ c) := by
  have hl : (A.take i ++ b).length = i + b.length := by rw [List.length_append, List.length_take]; omega
  unfold putAt
  rw [List.take_left' hl, List.drop_append, hl, List.drop_of_length_le (by omega), List.nil_append, show i + b.length + c.length - (i + b.length) = c.length by omega, List.drop_drop, List.length_append]
  simp [Nat.add_assoc]
theorem DS.wrs_ok : ∀ (bs : List (List UInt8)) {S : DS} (i : Int), S.ok → (S.wrs i bs).1.ok
  | [], _, _, h => h
  | b :: bs, S, i, h => by
    show (if (S.wr i b).2 = 0 then (S.wr i b).1.wrs (i + 1) bs else S.wr i b).1.ok
    split
    · exact DS.wrs_ok bs _ (DS.wr_ok h i b)
    · exact DS.wr_ok h i b
theorem DS.wrs_len : ∀ (bs : List (List UInt8)) (S : DS) (i : Int), (S.wrs i bs).1.W.length ≤ S.W.length + bs.length ∧ (S.wrs i bs).1.A = S.A
  | [], S, _ => ⟨Nat.le_refl _, rfl⟩
  | b :: bs, S, i => by
    have h1 := DS.wr_len S i b
    show (if (S.wr i b).2 = 0 then (S.wr i b).1.wrs (i + 1) bs else S.wr i b).1.W.length ≤ _ ∧ (if (S.wr i b).2 = 0 then (S.wr i b).1.wrs (i + 1) bs else S.wr i b).1.A = _
    split
    · have h2 := DS.wrs_len bs (S.wr i b).1 (i + 1)
      rw [List.length_cons]
      exact ⟨by omega, by rw [h2.2, h1.2]⟩
    · rw [List.length_cons]
      exact ⟨by omega, h1.2⟩
/-- bytes in pieces of a sector -/
def secs (b : List UInt8) (k : Nat) : List (List UInt8) := (List.range k).map (fun j => sec b j)
theorem secs_length (b : List UInt8) (k : Nat) : (secs b k).length = k := by simp [secs]
theorem secs_succ (b : List UInt8) (k : Nat) : secs b (k + 1) = secs b k ++ [sec b k] := by simp [secs, List.range_succ]
theorem sec_length {b : List UInt8} {j : Nat} (h : j * 64 + 64 ≤ b.length) : (sec b j).length = 64 := by simp [sec]; omega
/-- all of a text written where there is room, with power: what is said then -/
theorem DS.wrs_V {S : DS} (h : S.ok) (i : Nat) (b : List UInt8) (ho : S.off = false) (ht : S.till = -1) : ∀ k, i * 64 + k * 64 ≤ S.A.length → k * 64 ≤ b.length →
    (S.wrs (i : Int) (secs b k)).2 = 0 ∧ (S.wrs (i : Int) (secs b k)).1.off = false ∧ (S.wrs (i : Int) (secs b k)).1.till = -1 ∧ (S.wrs (i : Int) (secs b k)).1.V = putAt S.V (i * 64) (b.take (k * 64))
  | 0, _, _ => by
    refine ⟨rfl, ho, ht, ?_⟩
    show S.V = putAt S.V (i * 64) (b.take (0 * 64))
    simp [putAt]
  | k + 1, h1, h2 => by
    obtain ⟨g1, g2, g3, g4⟩ := DS.wrs_V h i b ho ht k (by omega) (by omega)
    have hok := DS.wrs_ok (secs b k) (i : Int) h
    have hA := (DS.wrs_len (secs b k) S (i : Int)).2
    have hl := sec_length (b := b) (j := k) (by omega)
    have hVl := DS.V_length h
    rw [secs_succ, DS.wrs_snoc _ _ _ _ g1, secs_length]
    have hm : mayE (S.wrs (i : Int) (secs b k)).1.off (S.wrs (i : Int) (secs b k)).1.A.length ((i : Int) + (k : Int)) = 0 := by
      rw [g2, hA]; exact mayD_of (i := i + k) (by omega)
    unfold DS.wr
    rw [if_neg (by rw [hm]; simp), if_neg (by omega), if_neg (by rw [g3]; decide)]
    refine ⟨rfl, g2, by show stopT _ = _; rw [g3]; rfl, ?_⟩
    show flW _ (_ ++ [_]) = _
    rw [flW_append]
    show putAt (S.wrs (i : Int) (secs b k)).1.V (((i : Int) + (k : Int)).toNat * 64) (sec b k) = _
    rw [g4, show ((i : Int) + (k : Int)).toNat = i + k by omega]
    have ht : (b.take (k * 64)).length = k * 64 := by rw [List.length_take]; omega
    have e : b.take ((k + 1) * 64) = b.take (k * 64) ++ sec b k := by
      rw [show (k + 1) * 64 = k * 64 + 64 by omega, List.take_add]; rfl
    have hp : (S.V.take (i * 64)).length = i * 64 := by rw [List.length_take]; omega
    have hq := putAt_putAt S.V (i * 64) (b.take (k * 64)) (sec b k) (by omega)
    rw [ht] at hq
    rw [e, show (i + k) * 64 = i * 64 + k * 64 by omega, hq]
end Go.Proofs.YtcglabmlhljkmaaGreat
end
section
/- disk: New, and what is told of a disk. -/
namespace Go.Proofs.YtcglabmlhljkmaaGreat
open Go Go.RowKit Go.Gv
set_option linter.unusedVariables false
set_option linter.unusedSimpArgs false

set_option maxHeartbeats 1000000 in
theorem disk_New (k : Nat) (h : 8 ≤ k ∧ k ≤ 512) : SpecR Tryz.prog 28 #[.int .i64 (k : Int)] (fun _ => True) (fun r H' => ∃ p a, r = .tuple #[.pointer (some ⟨p, 0, none⟩), .int .i64 0] ∧ H' = [blk p 153 [.slice (some ⟨a, 0, none⟩) (List.replicate (k * 256) (0 : UInt8)).length (List.replicate (k * 256) (0 : UInt8)).length, (.slice none 0 0), .bool false, .int .i64 (-1)], blk a 5 (B8 (List.replicate (k * 256) (0 : UInt8))), own 186 2 (.slice none 0 0) (([] : List WW)).length (WL (([] : List WW))), manyRd (WT (([] : List WW)))]) := by
  refine SpecR.of (fun w _ => ?_)
  refine Calls.enter Tryz.func28 rfl rfl rfl (St.rebase w) ?_
  simp only [argSlots]
  refine Ws ?_
  (refine ZcB 6 ?_ ?_ <;> intro h1)
  · exact absurd (of_decide_eq_true h1) (by omega)
  · refine Ws ?_
    (refine Wcd ?_ ?_ <;> intro h2)
    · omega
    · refine Ws ?_
      refine Zomake1 (m := k * 256) ?_ (hj := by omega)
      intro a
      refine Ws ?_
      refine Zbu ?_
      refine Ws ?_
      (refine Wbx ?_; intro p)
      refine Ws ?_
      have e : (List.replicate (k * 256) (0 : UInt8)).length = k * 256 := List.length_replicate
      refine Zat (blk p _ _) (blk p 153 [.slice (some ⟨a, 0, none⟩) (List.replicate (k * 256) (0 : UInt8)).length (List.replicate (k * 256) (0 : UInt8)).length, .slice none 0 0, .bool false, .int .i64 (-1)]) ?_ (e := by rw [e]; rfl)
      refine Zat (blk a _ _) (blk a 5 (B8 (List.replicate (k * 256) 0))) ?_ (e := by rw [B8, List.map_replicate]; rfl)
      (with_reducible apply Tri.ownNil 186 2)
      refine Zat (own 186 2 (.slice none 0 0) 0 []) (own 186 2 (.slice none 0 0) ([] : List WW).length (WL ([] : List WW))) ?_
      (refine Tri.pure_ (A := manyRd (WT [])) manyRd_nil ?_)
      refine Zfn [blk p 153 [.slice (some ⟨a, 0, none⟩) (List.replicate (k * 256) (0 : UInt8)).length (List.replicate (k * 256) (0 : UInt8)).length, (.slice none 0 0), .bool false, .int .i64 (-1)], blk a 5 (B8 (List.replicate (k * 256) (0 : UInt8))), own 186 2 (.slice none 0 0) (([] : List WW)).length (WL (([] : List WW))), manyRd (WT (([] : List WW)))] (hq := ?_)
      exact ⟨p, a, rfl, rfl⟩

set_option maxHeartbeats 1000000 in
theorem disk_Pages (p a N : Nat) (vw : Value) (off : Bool) (till : Int) (hN : N ≤ 1000000) : Gv.Spec Tryz.prog 74 #[.pointer (some ⟨p, 0, none⟩)] [blk p 153 [.slice (some ⟨a, 0, none⟩) N N, vw, .bool off, .int .i64 till]]
    (fun r H' => r = .int .i64 ((N / 256 : Nat) : Int) ∧ H' = [blk p 153 [.slice (some ⟨a, 0, none⟩) N N, vw, .bool off, .int .i64 till]]) := by
  refine Gv.Spec.of (fun w h0 hw => ?_)
  refine Calls.enter Tryz.func74 rfl rfl rfl hw ?_
  simp only [argSlots]
  refine Wap ?_
  refine Ws ?_
  refine Zz 4 false ?_
  refine Ws ?_
  refine Zfn [blk p 153 [.slice (some ⟨a, 0, none⟩) N N, vw, .bool off, .int .i64 till]] (hq := ?_)
  exact ⟨by simp only [tupled]; rfl, rfl⟩

end Go.Proofs.YtcglabmlhljkmaaGreat
end
section
/- disk: Write. -/
namespace Go.Proofs.YtcglabmlhljkmaaGreat
open Go Go.RowKit Go.Gv
set_option linter.unusedVariables false
set_option linter.unusedSimpArgs false

theorem mayE_ok {off : Bool} {N : Nat} {i : Int} (h : mayE off N i = 0) : off = false ∧ 0 ≤ i ∧ i * 64 + 64 ≤ N := by
  unfold mayE at h
  split at h
  · cases h
  · rename_i h1
    split at h
    · cases h
    · rename_i h2
      exact ⟨by simpa using h1, by omega, by omega⟩
set_option maxHeartbeats 4000000 in
theorem disk_Write (p a : Nat) (vw : Value) (A : List UInt8) (W : List WW) (off : Bool) (till i : Int) (v : Value) (b : List UInt8) (h1 : PH) (hr : Rd h1 v b.length (B8 b)) (hA : A.length ≤ 1000000) (hWl : W.length ≤ 1000000) (ht : -1 ≤ till ∧ till ≤ 9223372036854775807) :
    Gv.Spec Tryz.prog 129 #[.pointer (some ⟨p, 0, none⟩), .int .i64 i, v] [blk p 153 [.slice (some ⟨a, 0, none⟩) (A).length (A).length, vw, .bool off, .int .i64 till], blk a 5 (B8 (A)), own 186 2 vw (W).length (WL (W)), manyRd (WT (W)), Ex h1]
    (fun r H' => (mayE off A.length i ≠ 0 ∧ r = .int .i64 (mayE off A.length i : Int) ∧ H' = [blk p 153 [.slice (some ⟨a, 0, none⟩) (A).length (A).length, vw, .bool off, .int .i64 till], blk a 5 (B8 (A)), own 186 2 vw (W).length (WL (W)), manyRd (WT (W)), Ex h1])
      ∨ (mayE off A.length i = 0 ∧ b.length ≠ 64 ∧ r = .int .i64 1 ∧ H' = [blk p 153 [.slice (some ⟨a, 0, none⟩) (A).length (A).length, vw, .bool off, .int .i64 till], blk a 5 (B8 (A)), own 186 2 vw (W).length (WL (W)), manyRd (WT (W)), Ex h1])
      ∨ (mayE off A.length i = 0 ∧ b.length = 64 ∧ till = 0 ∧ r = .int .i64 2 ∧ H' = [blk p 153 [.slice (some ⟨a, 0, none⟩) (A).length (A).length, vw, .bool true, .int .i64 (-1)], blk a 5 (B8 (A)), own 186 2 vw (W).length (WL (W)), manyRd (WT (W)), Ex h1])
      ∨ (mayE off A.length i = 0 ∧ b.length = 64 ∧ till ≠ 0 ∧ r = .int .i64 0 ∧ ∃ vw' vc, H' = [blk p 153 [.slice (some ⟨a, 0, none⟩) (A).length (A).length, vw', .bool off, .int .i64 (stopT till)], blk a 5 (B8 (A)), own 186 2 vw' (W ++ [(⟨i.toNat, vc, b⟩ : WW)]).length (WL (W ++ [(⟨i.toNat, vc, b⟩ : WW)])), manyRd (WT (W ++ [(⟨i.toNat, vc, b⟩ : WW)])), Ex h1])) := by
  refine Gv.Spec.of (fun w h0 hw => ?_)
  refine Calls.enter Tryz.func129 rfl rfl rfl hw ?_
  simp only [argSlots]
  refine Wap ?_
  refine Ws ?_
  refine Zd (disk_may p a A.length vw off till i hA) ?_
  refine Ws ?_
  (refine Wcd ?_ ?_ <;> intro hm)
  · refine Ws ?_
    refine Zfn [blk p 153 [.slice (some ⟨a, 0, none⟩) (A).length (A).length, vw, .bool off, .int .i64 till], blk a 5 (B8 (A)), own 186 2 vw (W).length (WL (W)), manyRd (WT (W)), Ex h1] (hq := ?_)
    exact .inl ⟨by omega, rfl, rfl⟩
  · have hm0 : mayE off A.length i = 0 := by omega
    have hmo := mayE_ok hm0
    obtain ⟨I, rfl⟩ : ∃ I : Nat, i = (I : Int) := ⟨i.toNat, by omega⟩
    refine Ws ?_
    refine Zlr2 (hr := hr) ?_
    refine Ws ?_
    (refine Wcd ?_ ?_ <;> intro hl)
    · refine Ws ?_
      refine Zfn [blk p 153 [.slice (some ⟨a, 0, none⟩) (A).length (A).length, vw, .bool off, .int .i64 till], blk a 5 (B8 (A)), own 186 2 vw (W).length (WL (W)), manyRd (WT (W)), Ex h1] (hq := ?_)
      exact .inr (.inl ⟨hm0, by omega, rfl, rfl⟩)
    · have hl' : b.length = 64 := by omega
      refine Ws ?_
      refine Zd (disk_stops p (.slice (some ⟨a, 0, none⟩) A.length A.length) vw off till ht) ?_
      refine Ws ?_
      (refine Wcb ?_ ?_ <;> intro hs)
      · have hs' : till = 0 := of_decide_eq_true hs
        refine Ws ?_
        refine Zat (blk p _ _) (blk p 153 [.slice (some ⟨a, 0, none⟩) A.length A.length, vw, .bool true, .int .i64 (-1)]) ?_ (e := by rw [hs, Bool.or_true, stopT, if_pos hs'])
        ((first | with_reducible apply Tri.fin | with_reducible apply Tri.finN); (case hr => rfl); (case h => (repeat (first | exact ResL.nil | (apply ResL.cons; (case a => (first | exact Res1.tmp rfl | (apply Res1.cell; rfl; (first | ((repeat (first | with_reducible exact Pull.head | with_reducible apply Pull.tail)); done) | (repeat (first | exact Pull.head | apply Pull.tail))); rfl) | (apply Res1.agg; rfl; (first | ((repeat (first | with_reducible exact Pull.head | with_reducible apply Pull.tail)); done) | (repeat (first | exact Pull.head | apply Pull.tail))); rfl; rfl))))))); (apply fin_R (Hn := [blk p 153 [.slice (some ⟨a, 0, none⟩) (A).length (A).length, vw, .bool true, .int .i64 (-1)], blk a 5 (B8 (A)), own 186 2 vw (W).length (WL (W)), manyRd (WT (W)), Ex h1])); (case p => (repeat (first | exact Pulls.nil | (apply Pulls.cons; (case a => (first | ((repeat (first | with_reducible exact Gv.Pull.head | with_reducible apply Gv.Pull.tail)); done) | (repeat (first | exact Gv.Pull.head | apply Gv.Pull.tail)))))))))
        exact .inr (.inr (.inl ⟨hm0, hl', hs', rfl, rfl⟩))
      · have hs' : till ≠ 0 := of_decide_eq_false hs
        refine Zat (blk p _ _) (blk p 153 [.slice (some ⟨a, 0, none⟩) A.length A.length, vw, .bool off, .int .i64 (stopT till)]) ?_ (e := by rw [hs, Bool.or_false])
        refine Wo ?_
        ((first | with_reducible apply Tri.seqMeet (α := Value × Value) (Lx := fun x => []) (Hx := fun x => [blk p 153 [.slice (some ⟨a, 0, none⟩) (A).length (A).length, x.1, .bool off, .int .i64 (stopT till)], blk a 5 (B8 (A)), own 186 2 x.1 (W ++ [(⟨I, x.2, b⟩ : WW)]).length (WL (W ++ [(⟨I, x.2, b⟩ : WW)])), manyRd (WT (W ++ [(⟨I, x.2, b⟩ : WW)])), Ex h1, Ex h0]) | with_reducible apply TriR.seqMeet (α := Value × Value) (Lx := fun x => []) (Hx := fun x => [blk p 153 [.slice (some ⟨a, 0, none⟩) (A).length (A).length, x.1, .bool off, .int .i64 (stopT till)], blk a 5 (B8 (A)), own 186 2 x.1 (W ++ [(⟨I, x.2, b⟩ : WW)]).length (WL (W ++ [(⟨I, x.2, b⟩ : WW)])), manyRd (WT (W ++ [(⟨I, x.2, b⟩ : WW)])), Ex h1, Ex h0])); rotate_left; (rintro ⟨vw', vc⟩; (try dsimp only)); rotate_left)
        · refine Wm [Ex h1] ?_
          refine Wq [0, 1, 2, 3] ?_
          refine Wq [5, 6] ?_
          refine ZA2 4 7 ?_ ?_
          · refine Zl ?_
            refine Zw ?_
            refine ZA 7 ?_
            refine Zcr (bytes_Clone v b (by omega)) ?_ (hpre := by exact rdw_ex Wp hr)
            rintro vc Hc rfl
            refine Wap ?_
            (refine Tri.shape (e := 5) (size := 1) (v := vc) Wp ?_; rintro ⟨Ac, cc, rfl⟩)
            refine Zw ?_
            refine Zm 8 (h := fun _ _ x => by exact Zbu x) (k := ?_)
            refine ZA 9 ?_
            (refine Zli (ys := [.int .i64 (I : Int), .slice Ac b.length cc]) ?_; intro vl)
            refine Zw ?_
            refine ZA 10 ?_
            refine Zap ?_ (hr := by exact rdw_own Wp) (hl := by rfl) (h1 := by intro y hy; simp at hy; rcases hy with rfl | rfl <;> rfl)
            intro vw'
            (refine Tri.shape (e := 186) (size := 2) (v := vw') Wp ?_; rintro ⟨Aw, cw, rfl⟩)
            refine Zw ?_
            refine Wq [11, 12] ?_
            refine ZA 13 ?_
            refine ZS ?_ (hi := by show 1 < 4; omega)
            refine Zw ?_
            refine ZE ?_
            refine Wo ?_
            (refine Tri.join (e := 5) (v := .slice Ac b.length cc) (l := WT W) Wp Wp ?_)
            refine Zat (manyRd _) (manyRd (WT (W ++ [(⟨I, .slice Ac b.length cc, b⟩ : WW)]))) ?_ (e := by rw [WT_append]; rfl)
            refine Zat (own 186 2 (.slice Aw (W.length + 1) cw) _ _) (own 186 2 (.slice Aw (W.length + 1) cw) (W ++ [(⟨I, .slice Ac b.length cc, b⟩ : WW)]).length (WL (W ++ [(⟨I, .slice Ac b.length cc, b⟩ : WW)]))) ?_ (e := by rw [WL_append, List.length_append]; rfl)
            exact Zrc (.slice Aw (W.length + 1) cw, .slice Ac b.length cc)
          · refine Zcr (bytes_Clone v b (by omega)) ?_ (hpre := by exact rdw_ex Wp hr)
            rintro vc Hc rfl
            refine Wap ?_
            (refine Tri.shape (e := 5) (size := 1) (v := vc) Wp ?_; rintro ⟨Ac, cc, rfl⟩)
            refine Zw ?_
            refine Zm 8 (h := fun _ _ x => by exact Zbu x) (k := ?_)
            refine ZA2 4 9 ?_ ?_
            · refine Zl ?_
              refine Zw ?_
              refine ZA 9 ?_
              (refine Zli (ys := [.int .i64 (I : Int), .slice Ac b.length cc]) ?_; intro vl)
              refine Zw ?_
              refine ZA 10 ?_
              refine Zap ?_ (hr := by exact rdw_own Wp) (hl := by rfl) (h1 := by intro y hy; simp at hy; rcases hy with rfl | rfl <;> rfl)
              intro vw'
              (refine Tri.shape (e := 186) (size := 2) (v := vw') Wp ?_; rintro ⟨Aw, cw, rfl⟩)
              refine Zw ?_
              refine Wq [11, 12] ?_
              refine ZA 13 ?_
              refine ZS ?_ (hi := by show 1 < 4; omega)
              refine Zw ?_
              refine ZE ?_
              refine Wo ?_
              (refine Tri.join (e := 5) (v := .slice Ac b.length cc) (l := WT W) Wp Wp ?_)
              refine Zat (manyRd _) (manyRd (WT (W ++ [(⟨I, .slice Ac b.length cc, b⟩ : WW)]))) ?_ (e := by rw [WT_append]; rfl)
              refine Zat (own 186 2 (.slice Aw (W.length + 1) cw) _ _) (own 186 2 (.slice Aw (W.length + 1) cw) (W ++ [(⟨I, .slice Ac b.length cc, b⟩ : WW)]).length (WL (W ++ [(⟨I, .slice Ac b.length cc, b⟩ : WW)]))) ?_ (e := by rw [WL_append, List.length_append]; rfl)
              exact Zrc (.slice Aw (W.length + 1) cw, .slice Ac b.length cc)
            · (refine Zli (ys := [.int .i64 (I : Int), .slice Ac b.length cc]) ?_; intro vl)
              refine Zw ?_
              refine ZA 4 ?_
              refine Zl ?_
              refine Zw ?_
              refine ZA 10 ?_
              refine Zap ?_ (hr := by exact rdw_own Wp) (hl := by rfl) (h1 := by intro y hy; simp at hy; rcases hy with rfl | rfl <;> rfl)
              intro vw'
              (refine Tri.shape (e := 186) (size := 2) (v := vw') Wp ?_; rintro ⟨Aw, cw, rfl⟩)
              refine Zw ?_
              refine Wq [11, 12] ?_
              refine ZA 13 ?_
              refine ZS ?_ (hi := by show 1 < 4; omega)
              refine Zw ?_
              refine ZE ?_
              refine Wo ?_
              (refine Tri.join (e := 5) (v := .slice Ac b.length cc) (l := WT W) Wp Wp ?_)
              refine Zat (manyRd _) (manyRd (WT (W ++ [(⟨I, .slice Ac b.length cc, b⟩ : WW)]))) ?_ (e := by rw [WT_append]; rfl)
              refine Zat (own 186 2 (.slice Aw (W.length + 1) cw) _ _) (own 186 2 (.slice Aw (W.length + 1) cw) (W ++ [(⟨I, .slice Ac b.length cc, b⟩ : WW)]).length (WL (W ++ [(⟨I, .slice Ac b.length cc, b⟩ : WW)]))) ?_ (e := by rw [WL_append, List.length_append]; rfl)
              exact Zrc (.slice Aw (W.length + 1) cw, .slice Ac b.length cc)
        · refine Ws ?_
          refine Zfn [blk p 153 [.slice (some ⟨a, 0, none⟩) (A).length (A).length, vw', .bool off, .int .i64 (stopT till)], blk a 5 (B8 (A)), own 186 2 vw' (W ++ [(⟨I, vc, b⟩ : WW)]).length (WL (W ++ [(⟨I, vc, b⟩ : WW)])), manyRd (WT (W ++ [(⟨I, vc, b⟩ : WW)])), Ex h1] (hq := ?_)
          exact .inr (.inr (.inr ⟨hm0, hl', hs', rfl, vw', vc, rfl⟩))
end Go.Proofs.YtcglabmlhljkmaaGreat
end
section
/- disk: Read and Flush. -/
namespace Go.Proofs.YtcglabmlhljkmaaGreat
open Go Go.RowKit Go.Gv
set_option linter.unusedVariables false
set_option linter.unusedSimpArgs false

set_option maxHeartbeats 4000000 in
theorem disk_Read (p a : Nat) (vw : Value) (A : List UInt8) (W : List WW) (off : Bool) (till i : Int) (hA : A.length ≤ 1000000) (hW : WOk A.length W) (hWl : W.length ≤ 1000000) :
    Gv.Spec Tryz.prog 171 #[.pointer (some ⟨p, 0, none⟩), .int .i64 i] [blk p 153 [.slice (some ⟨a, 0, none⟩) (A).length (A).length, vw, .bool off, .int .i64 till], blk a 5 (B8 (A)), own 186 2 vw (W).length (WL (W)), manyRd (WT (W))]
    (fun r H' => (mayE off A.length i ≠ 0 ∧ r = .tuple #[.slice none 0 0, .int .i64 (mayE off A.length i : Int)] ∧ H' = [blk p 153 [.slice (some ⟨a, 0, none⟩) (A).length (A).length, vw, .bool off, .int .i64 till], blk a 5 (B8 (A)), own 186 2 vw (W).length (WL (W)), manyRd (WT (W))])
      ∨ (mayE off A.length i = 0 ∧ ∃ v, r = .tuple #[v, .int .i64 0] ∧ H' = [own 5 1 v (readM A W i).length (B8 (readM A W i)), blk p 153 [.slice (some ⟨a, 0, none⟩) (A).length (A).length, vw, .bool off, .int .i64 till], blk a 5 (B8 (A)), own 186 2 vw (W).length (WL (W)), manyRd (WT (W))])) := by
  refine Gv.Spec.of (fun w h0 hw => ?_)
  refine Calls.enter Tryz.func171 rfl rfl rfl hw ?_
  simp only [argSlots]
  refine Wap ?_
  refine Ws ?_
  refine Zd (disk_may p a A.length vw off till i hA) ?_
  refine Ws ?_
  (refine Wcd ?_ ?_ <;> intro hm)
  · refine Ws ?_
    refine Zfn [blk p 153 [.slice (some ⟨a, 0, none⟩) (A).length (A).length, vw, .bool off, .int .i64 till], blk a 5 (B8 (A)), own 186 2 vw (W).length (WL (W)), manyRd (WT (W))] (hq := ?_)
    exact .inl ⟨by omega, rfl, rfl⟩
  · have hm0 : mayE off A.length i = 0 := by omega
    have hmo := mayE_ok hm0
    obtain ⟨I, rfl⟩ : ∃ I : Nat, i = (I : Int) := ⟨i.toNat, by omega⟩
    refine Ws ?_
    (refine Wl (α := { k : Nat // k ≤ W.length ∧ lastW W (I : Int) W.length = lastW W (I : Int) k }) (fun x => x.1) (fun x => [(0, .pointer (some ⟨p, 0, none⟩)), (1, .int .i64 (I : Int)), (7, .int .i64 ((x.1 : Int) - 1))]) (fun x => [blk p 153 [.slice (some ⟨a, 0, none⟩) (A).length (A).length, vw, .bool off, .int .i64 till], blk a 5 (B8 (A)), own 186 2 vw (W).length (WL (W)), manyRd (WT (W)), Ex h0]) ⟨W.length, Nat.le_refl _, rfl⟩ ?_; rintro ⟨k, hk, hl⟩ mx hmx; (try dsimp only at hmx ⊢))
    refine Ws ?_
    (refine Wcd ?_ ?_ <;> intro hc)
    · obtain ⟨j, rfl⟩ : ∃ j, k = j + 1 := ⟨k - 1, by omega⟩
      have hj : j < W.length := by omega
      refine Ws ?_
      refine Zix (j := j) ?_ (hj := by omega) (hlt := by exact hj)
      refine Ws ?_
      refine Zlo ?_ (hv := by exact WL_get0 W j hj)
      refine Ws ?_
      (refine Wcd ?_ ?_ <;> intro hq)
      · refine Ws ?_
        refine Zix (j := j) ?_ (hj := by omega) (hlt := by exact hj)
        refine Ws ?_
        refine Zlo ?_ (hv := by exact WL_get1 W j hj)
        refine Ws ?_
        refine Zcr (bytes_Clone (W[j]'hj).v (W[j]'hj).b (by have := (hW.get hj).2; omega)) ?_ (hpre := by exact rdw_many Wp (WT_mem W j hj))
        rintro v Hc rfl
        refine Wap ?_
        refine Ws ?_
        have e : readM A W (I : Int) = (W[j]'hj).b := by
          rw [readM, hl, lastW_hit hj hq]; rfl
        refine Zat (own 5 1 v _ _) (own 5 1 v (readM A W (I : Int)).length (B8 (readM A W (I : Int)))) ?_ (e := by rw [e])
        refine Zfn [own 5 1 v (readM A W (I : Int)).length (B8 (readM A W (I : Int))), blk p 153 [.slice (some ⟨a, 0, none⟩) (A).length (A).length, vw, .bool off, .int .i64 till], blk a 5 (B8 (A)), own 186 2 vw (W).length (WL (W)), manyRd (WT (W))] (hq := ?_)
        exact .inr ⟨hm0, v, rfl, rfl⟩
      · refine Ws ?_
        refine Zi 7 ((j : Int) - 1) ?_ (hi := by omega)
        exact Zag ⟨j, by omega, by rw [hl, lastW_miss hj hq]⟩
    · obtain rfl : k = 0 := by omega
      have e : readM A W (I : Int) = (A.drop (I * 64)).take 64 := by
        rw [readM, hl]; rfl
      have hel : ((A.drop (I * 64)).take 64).length = 64 := by rw [List.length_take, List.length_drop]; omega
      refine Ws ?_
      refine Zd (disk_sector p a A.length I vw off till hA (by omega)) ?_
      refine Ws ?_
      refine Zcr (bytes_Clone (.slice (some ⟨a, I * 64, none⟩) 64 (A.length - I * 64)) ((A.drop (I * 64)).take 64) (by omega)) ?_ (hpre := by rw [hel]; exact rdw_blkAt Wp ⟨by omega, by omega⟩ (by rw [B8_length, hel, B8, B8, List.map_take, List.map_drop]))
      rintro v Hc rfl
      refine Wap ?_
      refine Ws ?_
      refine Zat (own 5 1 v _ _) (own 5 1 v (readM A W (I : Int)).length (B8 (readM A W (I : Int)))) ?_ (e := by rw [e])
      refine Zfn [own 5 1 v (readM A W (I : Int)).length (B8 (readM A W (I : Int))), blk p 153 [.slice (some ⟨a, 0, none⟩) (A).length (A).length, vw, .bool off, .int .i64 till], blk a 5 (B8 (A)), own 186 2 vw (W).length (WL (W)), manyRd (WT (W))] (hq := ?_)
      exact .inr ⟨hm0, v, rfl, rfl⟩
end Go.Proofs.YtcglabmlhljkmaaGreat
end
