/- Texts of this claim, put together: GvTy, GvSeat, ChWalk, CrcPlain, CrcWalk, DkPlain, DkWalk, DvPlain, DkWalk2, GvMeet. -/
import Derived.Test.YtckdlfbbkemklaaProg
import Derived.Test.YtckdlfbbkemklaaZ01
import Derived.Test.YtckdlfbbkemklaaZ00
section
/- What the types of the program are, as instances: written by gen_ty.py. -/
namespace Go.Proofs.Ytckdlfbbkemklaa
open Go Go.Gv
set_option maxRecDepth 100000
instance : TPlain Try.prog 1 := ⟨by kernel_rfl⟩
instance : TSize Try.prog 1 1 := ⟨by kernel_rfl⟩
instance : TPlain Try.prog 2 := ⟨by kernel_rfl⟩
instance : TSize Try.prog 2 1 := ⟨by kernel_rfl⟩
instance : TZero Try.prog 2 ([.int .i64 0]) := ⟨by kernel_rfl⟩
instance : TElem Try.prog 2 1 8 ([.int .i64 0]) := ⟨by kernel_rfl, by kernel_rfl⟩
instance : TInt Try.prog 2 .i64 := ⟨Try.underlying2⟩
instance : TPlain Try.prog 3 := ⟨by kernel_rfl⟩
instance : TSize Try.prog 3 1 := ⟨by kernel_rfl⟩
instance : TZero Try.prog 3 ([.int .i64 0]) := ⟨by kernel_rfl⟩
instance : TElem Try.prog 3 1 8 ([.int .i64 0]) := ⟨by kernel_rfl, by kernel_rfl⟩
instance : TInt Try.prog 3 .i64 := ⟨Try.underlying3⟩
instance : TPlain Try.prog 4 := ⟨by kernel_rfl⟩
instance : TSize Try.prog 4 1 := ⟨by kernel_rfl⟩
instance : TZero Try.prog 4 ([.bool false]) := ⟨by kernel_rfl⟩
instance : TElem Try.prog 4 1 1 ([.bool false]) := ⟨by kernel_rfl, by kernel_rfl⟩
instance : TBool Try.prog 4 := ⟨Try.underlying4⟩
instance : TPlain Try.prog 5 := ⟨by kernel_rfl⟩
instance : TSize Try.prog 5 1 := ⟨by kernel_rfl⟩
instance : TZero Try.prog 5 ([.int .u8 0]) := ⟨by kernel_rfl⟩
instance : TElem Try.prog 5 1 1 ([.int .u8 0]) := ⟨by kernel_rfl, by kernel_rfl⟩
instance : TInt Try.prog 5 .u8 := ⟨Try.underlying5⟩
instance : TAgg Try.prog 7 4 := ⟨by kernel_rfl, by kernel_rfl⟩
instance : TSize Try.prog 7 4 := ⟨by kernel_rfl⟩
instance : TZero Try.prog 7 ([.int .i64 0, .int .i64 0, .bool false, .int .u8 0]) := ⟨by kernel_rfl⟩
instance : TElem Try.prog 7 4 24 ([.int .i64 0, .int .i64 0, .bool false, .int .u8 0]) := ⟨by kernel_rfl, by kernel_rfl⟩
instance : TPlaces Try.prog 7 [(0, 1), (1, 1), (2, 1), (3, 1)] := ⟨by kernel_rfl⟩
instance : TField Try.prog 7 0 0 := ⟨_, _, Try.underlying7, rfl, rfl, by kernel_rfl⟩
instance : TField Try.prog 7 1 1 := ⟨_, _, Try.underlying7, rfl, rfl, by kernel_rfl⟩
instance : TField Try.prog 7 2 2 := ⟨_, _, Try.underlying7, rfl, rfl, by kernel_rfl⟩
instance : TField Try.prog 7 3 3 := ⟨_, _, Try.underlying7, rfl, rfl, by kernel_rfl⟩
instance : TEq Try.prog 7 ([.int .i64 0, .int .i64 0, .bool false, .int .u8 0]) := ⟨by kernel_rfl, by kernel_rfl, by kernel_rfl⟩
instance : TPlain Try.prog 9 := ⟨by kernel_rfl⟩
instance : TSize Try.prog 9 1 := ⟨by kernel_rfl⟩
instance : TZero Try.prog 9 ([.string ⟨#[]⟩]) := ⟨by kernel_rfl⟩
instance : TElem Try.prog 9 1 16 ([.string ⟨#[]⟩]) := ⟨by kernel_rfl, by kernel_rfl⟩
instance : TStr Try.prog 9 := ⟨Try.underlying9⟩
instance : TPlain Try.prog 12 := ⟨by kernel_rfl⟩
instance : TSize Try.prog 12 1 := ⟨by kernel_rfl⟩
instance : TZero Try.prog 12 ([.int .u64 0]) := ⟨by kernel_rfl⟩
instance : TElem Try.prog 12 1 8 ([.int .u64 0]) := ⟨by kernel_rfl, by kernel_rfl⟩
instance : TInt Try.prog 12 .u64 := ⟨Try.underlying12⟩
instance : TAgg Try.prog 13 2 := ⟨by kernel_rfl, by kernel_rfl⟩
instance : TSize Try.prog 13 2 := ⟨by kernel_rfl⟩
instance : TZero Try.prog 13 ([.string ⟨#[]⟩, .int .u64 0]) := ⟨by kernel_rfl⟩
instance : TElem Try.prog 13 2 24 ([.string ⟨#[]⟩, .int .u64 0]) := ⟨by kernel_rfl, by kernel_rfl⟩
instance : TPlaces Try.prog 13 [(0, 1), (1, 1)] := ⟨by kernel_rfl⟩
instance : TField Try.prog 13 0 0 := ⟨_, _, Try.underlying13, rfl, rfl, by kernel_rfl⟩
instance : TField Try.prog 13 1 1 := ⟨_, _, Try.underlying13, rfl, rfl, by kernel_rfl⟩
instance : TAgg Try.prog 18 1 := ⟨by kernel_rfl, by kernel_rfl⟩
instance : TSize Try.prog 18 1 := ⟨by kernel_rfl⟩
instance : TZero Try.prog 18 ([.pointer none]) := ⟨by kernel_rfl⟩
instance : TElem Try.prog 18 1 8 ([.pointer none]) := ⟨by kernel_rfl, by kernel_rfl⟩
instance : TPlaces Try.prog 18 [(0, 1)] := ⟨by kernel_rfl⟩
instance : TField Try.prog 18 0 0 := ⟨_, _, Try.underlying18, rfl, rfl, by kernel_rfl⟩
instance : TPlain Try.prog 20 := ⟨by kernel_rfl⟩
instance : TSize Try.prog 20 1 := ⟨by kernel_rfl⟩
instance : TZero Try.prog 20 ([.nilIface]) := ⟨by kernel_rfl⟩
instance : TElem Try.prog 20 1 16 ([.nilIface]) := ⟨by kernel_rfl, by kernel_rfl⟩
instance : TPlain Try.prog 21 := ⟨by kernel_rfl⟩
instance : TSize Try.prog 21 1 := ⟨by kernel_rfl⟩
instance : TZero Try.prog 21 ([.int .i32 0]) := ⟨by kernel_rfl⟩
instance : TElem Try.prog 21 1 4 ([.int .i32 0]) := ⟨by kernel_rfl, by kernel_rfl⟩
instance : TInt Try.prog 21 .i32 := ⟨Try.underlying21⟩
instance : TPlain Try.prog 22 := ⟨by kernel_rfl⟩
instance : TSize Try.prog 22 1 := ⟨by kernel_rfl⟩
instance : TZero Try.prog 22 ([.slice none 0 0]) := ⟨by kernel_rfl⟩
instance : TElem Try.prog 22 1 24 ([.slice none 0 0]) := ⟨by kernel_rfl, by kernel_rfl⟩
instance : TSlice Try.prog 22 103 := ⟨Try.underlying22⟩
instance : TPlain Try.prog 23 := ⟨by kernel_rfl⟩
instance : TSize Try.prog 23 1 := ⟨by kernel_rfl⟩
instance : TZero Try.prog 23 ([.slice none 0 0]) := ⟨by kernel_rfl⟩
instance : TElem Try.prog 23 1 24 ([.slice none 0 0]) := ⟨by kernel_rfl, by kernel_rfl⟩
instance : TSlice Try.prog 23 101 := ⟨Try.underlying23⟩
instance : TPlain Try.prog 24 := ⟨by kernel_rfl⟩
instance : TSize Try.prog 24 1 := ⟨by kernel_rfl⟩
instance : TZero Try.prog 24 ([.slice none 0 0]) := ⟨by kernel_rfl⟩
instance : TElem Try.prog 24 1 24 ([.slice none 0 0]) := ⟨by kernel_rfl, by kernel_rfl⟩
instance : TSlice Try.prog 24 3 := ⟨Try.underlying24⟩
instance : TAgg Try.prog 25 4 := ⟨by kernel_rfl, by kernel_rfl⟩
instance : TSize Try.prog 25 4 := ⟨by kernel_rfl⟩
instance : TZero Try.prog 25 ([.bool false, .slice none 0 0, .slice none 0 0, .slice none 0 0]) := ⟨by kernel_rfl⟩
instance : TElem Try.prog 25 4 80 ([.bool false, .slice none 0 0, .slice none 0 0, .slice none 0 0]) := ⟨by kernel_rfl, by kernel_rfl⟩
instance : TPlaces Try.prog 25 [(0, 1), (1, 1), (2, 1), (3, 1)] := ⟨by kernel_rfl⟩
instance : TField Try.prog 25 0 0 := ⟨_, _, Try.underlying25, rfl, rfl, by kernel_rfl⟩
instance : TField Try.prog 25 1 1 := ⟨_, _, Try.underlying25, rfl, rfl, by kernel_rfl⟩
instance : TField Try.prog 25 2 2 := ⟨_, _, Try.underlying25, rfl, rfl, by kernel_rfl⟩
instance : TField Try.prog 25 3 3 := ⟨_, _, Try.underlying25, rfl, rfl, by kernel_rfl⟩
instance : TAgg Try.prog 26 4 := ⟨by kernel_rfl, by kernel_rfl⟩
instance : TSize Try.prog 26 4 := ⟨by kernel_rfl⟩
instance : TZero Try.prog 26 ([.bool false, .slice none 0 0, .slice none 0 0, .slice none 0 0]) := ⟨by kernel_rfl⟩
instance : TElem Try.prog 26 4 80 ([.bool false, .slice none 0 0, .slice none 0 0, .slice none 0 0]) := ⟨by kernel_rfl, by kernel_rfl⟩
instance : TPlaces Try.prog 26 [(0, 1), (1, 1), (2, 1), (3, 1)] := ⟨by kernel_rfl⟩
instance : TField Try.prog 26 0 0 := ⟨_, _, Try.underlying26, rfl, rfl, by kernel_rfl⟩
instance : TField Try.prog 26 1 1 := ⟨_, _, Try.underlying26, rfl, rfl, by kernel_rfl⟩
instance : TField Try.prog 26 2 2 := ⟨_, _, Try.underlying26, rfl, rfl, by kernel_rfl⟩
instance : TField Try.prog 26 3 3 := ⟨_, _, Try.underlying26, rfl, rfl, by kernel_rfl⟩
instance : TPlain Try.prog 27 := ⟨by kernel_rfl⟩
instance : TSize Try.prog 27 1 := ⟨by kernel_rfl⟩
instance : TZero Try.prog 27 ([.int .u64 0]) := ⟨by kernel_rfl⟩
instance : TElem Try.prog 27 1 8 ([.int .u64 0]) := ⟨by kernel_rfl, by kernel_rfl⟩
instance : TInt Try.prog 27 .u64 := ⟨Try.underlying27⟩
instance : TPlain Try.prog 28 := ⟨by kernel_rfl⟩
instance : TSize Try.prog 28 1 := ⟨by kernel_rfl⟩
instance : TZero Try.prog 28 ([.slice none 0 0]) := ⟨by kernel_rfl⟩
instance : TElem Try.prog 28 1 24 ([.slice none 0 0]) := ⟨by kernel_rfl, by kernel_rfl⟩
instance : TSlice Try.prog 28 33 := ⟨Try.underlying28⟩
instance : TPlain Try.prog 29 := ⟨by kernel_rfl⟩
instance : TSize Try.prog 29 1 := ⟨by kernel_rfl⟩
instance : TPlain Try.prog 30 := ⟨by kernel_rfl⟩
instance : TSize Try.prog 30 1 := ⟨by kernel_rfl⟩
instance : TZero Try.prog 30 ([.slice none 0 0]) := ⟨by kernel_rfl⟩
instance : TElem Try.prog 30 1 24 ([.slice none 0 0]) := ⟨by kernel_rfl, by kernel_rfl⟩
instance : TSlice Try.prog 30 100 := ⟨Try.underlying30⟩
instance : TPlain Try.prog 31 := ⟨by kernel_rfl⟩
instance : TSize Try.prog 31 1 := ⟨by kernel_rfl⟩
instance : TZero Try.prog 31 ([.slice none 0 0]) := ⟨by kernel_rfl⟩
instance : TElem Try.prog 31 1 24 ([.slice none 0 0]) := ⟨by kernel_rfl, by kernel_rfl⟩
instance : TSlice Try.prog 31 98 := ⟨Try.underlying31⟩
instance : TAgg Try.prog 32 4 := ⟨by kernel_rfl, by kernel_rfl⟩
instance : TSize Try.prog 32 4 := ⟨by kernel_rfl⟩
instance : TZero Try.prog 32 ([.bool false, .slice none 0 0, .slice none 0 0, .slice none 0 0]) := ⟨by kernel_rfl⟩
instance : TElem Try.prog 32 4 80 ([.bool false, .slice none 0 0, .slice none 0 0, .slice none 0 0]) := ⟨by kernel_rfl, by kernel_rfl⟩
instance : TPlaces Try.prog 32 [(0, 1), (1, 1), (2, 1), (3, 1)] := ⟨by kernel_rfl⟩
instance : TField Try.prog 32 0 0 := ⟨_, _, Try.underlying32, rfl, rfl, by kernel_rfl⟩
instance : TField Try.prog 32 1 1 := ⟨_, _, Try.underlying32, rfl, rfl, by kernel_rfl⟩
instance : TField Try.prog 32 2 2 := ⟨_, _, Try.underlying32, rfl, rfl, by kernel_rfl⟩
instance : TField Try.prog 32 3 3 := ⟨_, _, Try.underlying32, rfl, rfl, by kernel_rfl⟩
instance : TAgg Try.prog 33 4 := ⟨by kernel_rfl, by kernel_rfl⟩
instance : TSize Try.prog 33 4 := ⟨by kernel_rfl⟩
instance : TZero Try.prog 33 ([.bool false, .slice none 0 0, .slice none 0 0, .slice none 0 0]) := ⟨by kernel_rfl⟩
instance : TElem Try.prog 33 4 80 ([.bool false, .slice none 0 0, .slice none 0 0, .slice none 0 0]) := ⟨by kernel_rfl, by kernel_rfl⟩
instance : TPlaces Try.prog 33 [(0, 1), (1, 1), (2, 1), (3, 1)] := ⟨by kernel_rfl⟩
instance : TField Try.prog 33 0 0 := ⟨_, _, Try.underlying33, rfl, rfl, by kernel_rfl⟩
instance : TField Try.prog 33 1 1 := ⟨_, _, Try.underlying33, rfl, rfl, by kernel_rfl⟩
instance : TField Try.prog 33 2 2 := ⟨_, _, Try.underlying33, rfl, rfl, by kernel_rfl⟩
instance : TField Try.prog 33 3 3 := ⟨_, _, Try.underlying33, rfl, rfl, by kernel_rfl⟩
instance : TPlain Try.prog 34 := ⟨by kernel_rfl⟩
instance : TSize Try.prog 34 1 := ⟨by kernel_rfl⟩
instance : TPlain Try.prog 35 := ⟨by kernel_rfl⟩
instance : TSize Try.prog 35 1 := ⟨by kernel_rfl⟩
instance : TPlain Try.prog 36 := ⟨by kernel_rfl⟩
instance : TSize Try.prog 36 1 := ⟨by kernel_rfl⟩
instance : TPlain Try.prog 37 := ⟨by kernel_rfl⟩
instance : TSize Try.prog 37 1 := ⟨by kernel_rfl⟩
instance : TPlain Try.prog 38 := ⟨by kernel_rfl⟩
instance : TSize Try.prog 38 1 := ⟨by kernel_rfl⟩
instance : TPlain Try.prog 39 := ⟨by kernel_rfl⟩
instance : TSize Try.prog 39 1 := ⟨by kernel_rfl⟩
instance : TPlain Try.prog 40 := ⟨by kernel_rfl⟩
instance : TSize Try.prog 40 1 := ⟨by kernel_rfl⟩
instance : TAgg Try.prog 41 5 := ⟨by kernel_rfl, by kernel_rfl⟩
instance : TSize Try.prog 41 5 := ⟨by kernel_rfl⟩
instance : TZero Try.prog 41 ([.int .u64 0, .int .i64 0, .int .i64 0, .int .i64 0, .int .i64 0]) := ⟨by kernel_rfl⟩
instance : TElem Try.prog 41 5 40 ([.int .u64 0, .int .i64 0, .int .i64 0, .int .i64 0, .int .i64 0]) := ⟨by kernel_rfl, by kernel_rfl⟩
instance : TPlaces Try.prog 41 [(0, 1), (1, 1), (2, 1), (3, 1), (4, 1)] := ⟨by kernel_rfl⟩
instance : TField Try.prog 41 0 0 := ⟨_, _, Try.underlying41, rfl, rfl, by kernel_rfl⟩
instance : TField Try.prog 41 1 1 := ⟨_, _, Try.underlying41, rfl, rfl, by kernel_rfl⟩
instance : TField Try.prog 41 2 2 := ⟨_, _, Try.underlying41, rfl, rfl, by kernel_rfl⟩
instance : TField Try.prog 41 3 3 := ⟨_, _, Try.underlying41, rfl, rfl, by kernel_rfl⟩
instance : TField Try.prog 41 4 4 := ⟨_, _, Try.underlying41, rfl, rfl, by kernel_rfl⟩
instance : TEq Try.prog 41 ([.int .u64 0, .int .i64 0, .int .i64 0, .int .i64 0, .int .i64 0]) := ⟨by kernel_rfl, by kernel_rfl, by kernel_rfl⟩
instance : TAgg Try.prog 42 5 := ⟨by kernel_rfl, by kernel_rfl⟩
instance : TSize Try.prog 42 5 := ⟨by kernel_rfl⟩
instance : TZero Try.prog 42 ([.int .u64 0, .int .i64 0, .int .i64 0, .int .i64 0, .int .i64 0]) := ⟨by kernel_rfl⟩
instance : TElem Try.prog 42 5 40 ([.int .u64 0, .int .i64 0, .int .i64 0, .int .i64 0, .int .i64 0]) := ⟨by kernel_rfl, by kernel_rfl⟩
instance : TPlaces Try.prog 42 [(0, 1), (1, 1), (2, 1), (3, 1), (4, 1)] := ⟨by kernel_rfl⟩
instance : TField Try.prog 42 0 0 := ⟨_, _, Try.underlying42, rfl, rfl, by kernel_rfl⟩
instance : TField Try.prog 42 1 1 := ⟨_, _, Try.underlying42, rfl, rfl, by kernel_rfl⟩
instance : TField Try.prog 42 2 2 := ⟨_, _, Try.underlying42, rfl, rfl, by kernel_rfl⟩
instance : TField Try.prog 42 3 3 := ⟨_, _, Try.underlying42, rfl, rfl, by kernel_rfl⟩
instance : TField Try.prog 42 4 4 := ⟨_, _, Try.underlying42, rfl, rfl, by kernel_rfl⟩
instance : TEq Try.prog 42 ([.int .u64 0, .int .i64 0, .int .i64 0, .int .i64 0, .int .i64 0]) := ⟨by kernel_rfl, by kernel_rfl, by kernel_rfl⟩
instance : TPlain Try.prog 43 := ⟨by kernel_rfl⟩
instance : TSize Try.prog 43 1 := ⟨by kernel_rfl⟩
instance : TZero Try.prog 43 ([.slice none 0 0]) := ⟨by kernel_rfl⟩
instance : TElem Try.prog 43 1 24 ([.slice none 0 0]) := ⟨by kernel_rfl, by kernel_rfl⟩
instance : TSlice Try.prog 43 5 := ⟨Try.underlying43⟩
instance : TPlain Try.prog 44 := ⟨by kernel_rfl⟩
instance : TSize Try.prog 44 1 := ⟨by kernel_rfl⟩
instance : TZero Try.prog 44 ([.int .i64 0]) := ⟨by kernel_rfl⟩
instance : TElem Try.prog 44 1 8 ([.int .i64 0]) := ⟨by kernel_rfl, by kernel_rfl⟩
instance : TInt Try.prog 44 .i64 := ⟨Try.underlying44⟩
instance : TPlain Try.prog 46 := ⟨by kernel_rfl⟩
instance : TSize Try.prog 46 1 := ⟨by kernel_rfl⟩
instance : TAgg Try.prog 47 2 := ⟨by kernel_rfl, by kernel_rfl⟩
instance : TSize Try.prog 47 2 := ⟨by kernel_rfl⟩
instance : TZero Try.prog 47 ([.int .i64 0, .int .i64 0]) := ⟨by kernel_rfl⟩
instance : TElem Try.prog 47 2 16 ([.int .i64 0, .int .i64 0]) := ⟨by kernel_rfl, by kernel_rfl⟩
instance : TPlaces Try.prog 47 [(0, 1), (1, 1)] := ⟨by kernel_rfl⟩
instance : TField Try.prog 47 0 0 := ⟨_, _, Try.underlying47, rfl, rfl, by kernel_rfl⟩
instance : TField Try.prog 47 1 1 := ⟨_, _, Try.underlying47, rfl, rfl, by kernel_rfl⟩
instance : TEq Try.prog 47 ([.int .i64 0, .int .i64 0]) := ⟨by kernel_rfl, by kernel_rfl, by kernel_rfl⟩
instance : TAgg Try.prog 48 2 := ⟨by kernel_rfl, by kernel_rfl⟩
instance : TSize Try.prog 48 2 := ⟨by kernel_rfl⟩
instance : TZero Try.prog 48 ([.int .i64 0, .int .i64 0]) := ⟨by kernel_rfl⟩
instance : TElem Try.prog 48 2 16 ([.int .i64 0, .int .i64 0]) := ⟨by kernel_rfl, by kernel_rfl⟩
instance : TPlaces Try.prog 48 [(0, 1), (1, 1)] := ⟨by kernel_rfl⟩
instance : TField Try.prog 48 0 0 := ⟨_, _, Try.underlying48, rfl, rfl, by kernel_rfl⟩
instance : TField Try.prog 48 1 1 := ⟨_, _, Try.underlying48, rfl, rfl, by kernel_rfl⟩
instance : TEq Try.prog 48 ([.int .i64 0, .int .i64 0]) := ⟨by kernel_rfl, by kernel_rfl, by kernel_rfl⟩
instance : TAgg Try.prog 49 5 := ⟨by kernel_rfl, by kernel_rfl⟩
instance : TSize Try.prog 49 5 := ⟨by kernel_rfl⟩
instance : TZero Try.prog 49 ([.int .u64 0, .int .i64 0, .int .i64 0, .int .i64 0, .int .i64 0]) := ⟨by kernel_rfl⟩
instance : TElem Try.prog 49 5 40 ([.int .u64 0, .int .i64 0, .int .i64 0, .int .i64 0, .int .i64 0]) := ⟨by kernel_rfl, by kernel_rfl⟩
instance : TPlaces Try.prog 49 [(0, 1), (1, 2), (3, 1), (4, 1)] := ⟨by kernel_rfl⟩
instance : TField Try.prog 49 0 0 := ⟨_, _, Try.underlying49, rfl, rfl, by kernel_rfl⟩
instance : TField Try.prog 49 1 1 := ⟨_, _, Try.underlying49, rfl, rfl, by kernel_rfl⟩
instance : TField Try.prog 49 2 3 := ⟨_, _, Try.underlying49, rfl, rfl, by kernel_rfl⟩
instance : TField Try.prog 49 3 4 := ⟨_, _, Try.underlying49, rfl, rfl, by kernel_rfl⟩
instance : TEq Try.prog 49 ([.int .u64 0, .int .i64 0, .int .i64 0, .int .i64 0, .int .i64 0]) := ⟨by kernel_rfl, by kernel_rfl, by kernel_rfl⟩
instance : TAgg Try.prog 50 5 := ⟨by kernel_rfl, by kernel_rfl⟩
instance : TSize Try.prog 50 5 := ⟨by kernel_rfl⟩
instance : TZero Try.prog 50 ([.int .u64 0, .int .i64 0, .int .i64 0, .int .i64 0, .int .i64 0]) := ⟨by kernel_rfl⟩
instance : TElem Try.prog 50 5 40 ([.int .u64 0, .int .i64 0, .int .i64 0, .int .i64 0, .int .i64 0]) := ⟨by kernel_rfl, by kernel_rfl⟩
instance : TPlaces Try.prog 50 [(0, 1), (1, 2), (3, 1), (4, 1)] := ⟨by kernel_rfl⟩
instance : TField Try.prog 50 0 0 := ⟨_, _, Try.underlying50, rfl, rfl, by kernel_rfl⟩
instance : TField Try.prog 50 1 1 := ⟨_, _, Try.underlying50, rfl, rfl, by kernel_rfl⟩
instance : TField Try.prog 50 2 3 := ⟨_, _, Try.underlying50, rfl, rfl, by kernel_rfl⟩
instance : TField Try.prog 50 3 4 := ⟨_, _, Try.underlying50, rfl, rfl, by kernel_rfl⟩
instance : TEq Try.prog 50 ([.int .u64 0, .int .i64 0, .int .i64 0, .int .i64 0, .int .i64 0]) := ⟨by kernel_rfl, by kernel_rfl, by kernel_rfl⟩
instance : TPlain Try.prog 51 := ⟨by kernel_rfl⟩
instance : TSize Try.prog 51 1 := ⟨by kernel_rfl⟩
instance : TPlain Try.prog 52 := ⟨by kernel_rfl⟩
instance : TSize Try.prog 52 1 := ⟨by kernel_rfl⟩
instance : TPlain Try.prog 54 := ⟨by kernel_rfl⟩
instance : TSize Try.prog 54 1 := ⟨by kernel_rfl⟩
instance : TPlain Try.prog 55 := ⟨by kernel_rfl⟩
instance : TSize Try.prog 55 1 := ⟨by kernel_rfl⟩
instance : TPlain Try.prog 56 := ⟨by kernel_rfl⟩
instance : TSize Try.prog 56 1 := ⟨by kernel_rfl⟩
instance : TPlain Try.prog 57 := ⟨by kernel_rfl⟩
instance : TSize Try.prog 57 1 := ⟨by kernel_rfl⟩
instance : TPlain Try.prog 58 := ⟨by kernel_rfl⟩
instance : TSize Try.prog 58 1 := ⟨by kernel_rfl⟩
instance : TZero Try.prog 58 ([.pointer none]) := ⟨by kernel_rfl⟩
instance : TElem Try.prog 58 1 8 ([.pointer none]) := ⟨by kernel_rfl, by kernel_rfl⟩
instance : TPtr Try.prog 58 := ⟨by kernel_rfl⟩
instance : TPlain Try.prog 60 := ⟨by kernel_rfl⟩
instance : TSize Try.prog 60 1 := ⟨by kernel_rfl⟩
instance : TPlain Try.prog 61 := ⟨by kernel_rfl⟩
instance : TSize Try.prog 61 1 := ⟨by kernel_rfl⟩
instance : TZero Try.prog 61 ([.int .u32 0]) := ⟨by kernel_rfl⟩
instance : TElem Try.prog 61 1 4 ([.int .u32 0]) := ⟨by kernel_rfl, by kernel_rfl⟩
instance : TInt Try.prog 61 .u32 := ⟨Try.underlying61⟩
instance : TAgg Try.prog 62 256 := ⟨by kernel_rfl, by kernel_rfl⟩
instance : TSize Try.prog 62 256 := ⟨by kernel_rfl⟩
instance : TZero Try.prog 62 (List.replicate 256 (.int .u32 0)) := ⟨by kernel_rfl⟩
instance : TElem Try.prog 62 256 1024 (List.replicate 256 (.int .u32 0)) := ⟨by kernel_rfl, by kernel_rfl⟩
instance : TEq Try.prog 62 (List.replicate 256 (.int .u32 0)) := ⟨by kernel_rfl, by kernel_rfl, by kernel_rfl⟩
instance : TArr Try.prog 62 256 61 1 := ⟨Try.underlying62, by kernel_rfl⟩
instance : TAgg Try.prog 63 256 := ⟨by kernel_rfl, by kernel_rfl⟩
instance : TSize Try.prog 63 256 := ⟨by kernel_rfl⟩
instance : TZero Try.prog 63 (List.replicate 256 (.int .u32 0)) := ⟨by kernel_rfl⟩
instance : TElem Try.prog 63 256 1024 (List.replicate 256 (.int .u32 0)) := ⟨by kernel_rfl, by kernel_rfl⟩
instance : TEq Try.prog 63 (List.replicate 256 (.int .u32 0)) := ⟨by kernel_rfl, by kernel_rfl, by kernel_rfl⟩
instance : TArr Try.prog 63 256 61 1 := ⟨Try.underlying63, by kernel_rfl⟩
instance : TPlain Try.prog 64 := ⟨by kernel_rfl⟩
instance : TSize Try.prog 64 1 := ⟨by kernel_rfl⟩
instance : TPlain Try.prog 65 := ⟨by kernel_rfl⟩
instance : TSize Try.prog 65 1 := ⟨by kernel_rfl⟩
instance : TPlain Try.prog 66 := ⟨by kernel_rfl⟩
instance : TSize Try.prog 66 1 := ⟨by kernel_rfl⟩
instance : TPlain Try.prog 67 := ⟨by kernel_rfl⟩
instance : TSize Try.prog 67 1 := ⟨by kernel_rfl⟩
instance : TPlain Try.prog 68 := ⟨by kernel_rfl⟩
instance : TSize Try.prog 68 1 := ⟨by kernel_rfl⟩
instance : TPlain Try.prog 69 := ⟨by kernel_rfl⟩
instance : TSize Try.prog 69 1 := ⟨by kernel_rfl⟩
instance : TPlain Try.prog 70 := ⟨by kernel_rfl⟩
instance : TSize Try.prog 70 1 := ⟨by kernel_rfl⟩
instance : TAgg Try.prog 71 4 := ⟨by kernel_rfl, by kernel_rfl⟩
instance : TSize Try.prog 71 4 := ⟨by kernel_rfl⟩
instance : TZero Try.prog 71 ([.int .u8 0, .int .u8 0, .int .u8 0, .int .u8 0]) := ⟨by kernel_rfl⟩
instance : TElem Try.prog 71 4 4 ([.int .u8 0, .int .u8 0, .int .u8 0, .int .u8 0]) := ⟨by kernel_rfl, by kernel_rfl⟩
instance : TEq Try.prog 71 ([.int .u8 0, .int .u8 0, .int .u8 0, .int .u8 0]) := ⟨by kernel_rfl, by kernel_rfl, by kernel_rfl⟩
instance : TArr Try.prog 71 4 5 1 := ⟨Try.underlying71, by kernel_rfl⟩
instance : TAgg Try.prog 72 8 := ⟨by kernel_rfl, by kernel_rfl⟩
instance : TSize Try.prog 72 8 := ⟨by kernel_rfl⟩
instance : TZero Try.prog 72 ([.int .u8 0, .int .u8 0, .int .u8 0, .int .u8 0, .int .u8 0, .int .u8 0, .int .u8 0, .int .u8 0]) := ⟨by kernel_rfl⟩
instance : TElem Try.prog 72 8 8 ([.int .u8 0, .int .u8 0, .int .u8 0, .int .u8 0, .int .u8 0, .int .u8 0, .int .u8 0, .int .u8 0]) := ⟨by kernel_rfl, by kernel_rfl⟩
instance : TEq Try.prog 72 ([.int .u8 0, .int .u8 0, .int .u8 0, .int .u8 0, .int .u8 0, .int .u8 0, .int .u8 0, .int .u8 0]) := ⟨by kernel_rfl, by kernel_rfl, by kernel_rfl⟩
instance : TArr Try.prog 72 2 71 4 := ⟨Try.underlying72, by kernel_rfl⟩
instance : TAgg Try.prog 73 4 := ⟨by kernel_rfl, by kernel_rfl⟩
instance : TSize Try.prog 73 4 := ⟨by kernel_rfl⟩
instance : TZero Try.prog 73 ([.bool false, .bool false, .bool false, .bool false]) := ⟨by kernel_rfl⟩
instance : TElem Try.prog 73 4 4 ([.bool false, .bool false, .bool false, .bool false]) := ⟨by kernel_rfl, by kernel_rfl⟩
instance : TEq Try.prog 73 ([.bool false, .bool false, .bool false, .bool false]) := ⟨by kernel_rfl, by kernel_rfl, by kernel_rfl⟩
instance : TArr Try.prog 73 4 4 1 := ⟨Try.underlying73, by kernel_rfl⟩
instance : TPlain Try.prog 74 := ⟨by kernel_rfl⟩
instance : TSize Try.prog 74 1 := ⟨by kernel_rfl⟩
instance : TZero Try.prog 74 ([.slice none 0 0]) := ⟨by kernel_rfl⟩
instance : TElem Try.prog 74 1 24 ([.slice none 0 0]) := ⟨by kernel_rfl, by kernel_rfl⟩
instance : TSlice Try.prog 74 76 := ⟨Try.underlying74⟩
instance : TAgg Try.prog 75 2 := ⟨by kernel_rfl, by kernel_rfl⟩
instance : TSize Try.prog 75 2 := ⟨by kernel_rfl⟩
instance : TZero Try.prog 75 ([.bool false, .int .u8 0]) := ⟨by kernel_rfl⟩
instance : TElem Try.prog 75 2 2 ([.bool false, .int .u8 0]) := ⟨by kernel_rfl, by kernel_rfl⟩
instance : TPlaces Try.prog 75 [(0, 1), (1, 1)] := ⟨by kernel_rfl⟩
instance : TField Try.prog 75 0 0 := ⟨_, _, Try.underlying75, rfl, rfl, by kernel_rfl⟩
instance : TField Try.prog 75 1 1 := ⟨_, _, Try.underlying75, rfl, rfl, by kernel_rfl⟩
instance : TEq Try.prog 75 ([.bool false, .int .u8 0]) := ⟨by kernel_rfl, by kernel_rfl, by kernel_rfl⟩
instance : TAgg Try.prog 76 2 := ⟨by kernel_rfl, by kernel_rfl⟩
instance : TSize Try.prog 76 2 := ⟨by kernel_rfl⟩
instance : TZero Try.prog 76 ([.bool false, .int .u8 0]) := ⟨by kernel_rfl⟩
instance : TElem Try.prog 76 2 2 ([.bool false, .int .u8 0]) := ⟨by kernel_rfl, by kernel_rfl⟩
instance : TPlaces Try.prog 76 [(0, 1), (1, 1)] := ⟨by kernel_rfl⟩
instance : TField Try.prog 76 0 0 := ⟨_, _, Try.underlying76, rfl, rfl, by kernel_rfl⟩
instance : TField Try.prog 76 1 1 := ⟨_, _, Try.underlying76, rfl, rfl, by kernel_rfl⟩
instance : TEq Try.prog 76 ([.bool false, .int .u8 0]) := ⟨by kernel_rfl, by kernel_rfl, by kernel_rfl⟩
instance : TPlain Try.prog 77 := ⟨by kernel_rfl⟩
instance : TSize Try.prog 77 1 := ⟨by kernel_rfl⟩
instance : TAgg Try.prog 78 4 := ⟨by kernel_rfl, by kernel_rfl⟩
instance : TSize Try.prog 78 4 := ⟨by kernel_rfl⟩
instance : TZero Try.prog 78 ([.int .u8 0, .int .i64 0, .int .u64 0, .slice none 0 0]) := ⟨by kernel_rfl⟩
instance : TElem Try.prog 78 4 48 ([.int .u8 0, .int .i64 0, .int .u64 0, .slice none 0 0]) := ⟨by kernel_rfl, by kernel_rfl⟩
instance : TPlaces Try.prog 78 [(0, 1), (1, 1), (2, 1), (3, 1)] := ⟨by kernel_rfl⟩
instance : TField Try.prog 78 0 0 := ⟨_, _, Try.underlying78, rfl, rfl, by kernel_rfl⟩
instance : TField Try.prog 78 1 1 := ⟨_, _, Try.underlying78, rfl, rfl, by kernel_rfl⟩
instance : TField Try.prog 78 2 2 := ⟨_, _, Try.underlying78, rfl, rfl, by kernel_rfl⟩
instance : TField Try.prog 78 3 3 := ⟨_, _, Try.underlying78, rfl, rfl, by kernel_rfl⟩
instance : TAgg Try.prog 79 4 := ⟨by kernel_rfl, by kernel_rfl⟩
instance : TSize Try.prog 79 4 := ⟨by kernel_rfl⟩
instance : TZero Try.prog 79 ([.int .u8 0, .int .i64 0, .int .u64 0, .slice none 0 0]) := ⟨by kernel_rfl⟩
instance : TElem Try.prog 79 4 48 ([.int .u8 0, .int .i64 0, .int .u64 0, .slice none 0 0]) := ⟨by kernel_rfl, by kernel_rfl⟩
instance : TPlaces Try.prog 79 [(0, 1), (1, 1), (2, 1), (3, 1)] := ⟨by kernel_rfl⟩
instance : TField Try.prog 79 0 0 := ⟨_, _, Try.underlying79, rfl, rfl, by kernel_rfl⟩
instance : TField Try.prog 79 1 1 := ⟨_, _, Try.underlying79, rfl, rfl, by kernel_rfl⟩
instance : TField Try.prog 79 2 2 := ⟨_, _, Try.underlying79, rfl, rfl, by kernel_rfl⟩
instance : TField Try.prog 79 3 3 := ⟨_, _, Try.underlying79, rfl, rfl, by kernel_rfl⟩
instance : TPlain Try.prog 81 := ⟨by kernel_rfl⟩
instance : TSize Try.prog 81 1 := ⟨by kernel_rfl⟩
instance : TPlain Try.prog 82 := ⟨by kernel_rfl⟩
instance : TSize Try.prog 82 1 := ⟨by kernel_rfl⟩
instance : TPlain Try.prog 83 := ⟨by kernel_rfl⟩
instance : TSize Try.prog 83 1 := ⟨by kernel_rfl⟩
instance : TZero Try.prog 83 ([.pointer none]) := ⟨by kernel_rfl⟩
instance : TElem Try.prog 83 1 8 ([.pointer none]) := ⟨by kernel_rfl, by kernel_rfl⟩
instance : TPtr Try.prog 83 := ⟨by kernel_rfl⟩
instance : TPlain Try.prog 85 := ⟨by kernel_rfl⟩
instance : TSize Try.prog 85 1 := ⟨by kernel_rfl⟩
instance : TPlain Try.prog 87 := ⟨by kernel_rfl⟩
instance : TSize Try.prog 87 1 := ⟨by kernel_rfl⟩
instance : TPlain Try.prog 88 := ⟨by kernel_rfl⟩
instance : TSize Try.prog 88 1 := ⟨by kernel_rfl⟩
instance : TPlain Try.prog 89 := ⟨by kernel_rfl⟩
instance : TSize Try.prog 89 1 := ⟨by kernel_rfl⟩
instance : TPlain Try.prog 90 := ⟨by kernel_rfl⟩
instance : TSize Try.prog 90 1 := ⟨by kernel_rfl⟩
instance : TPlain Try.prog 91 := ⟨by kernel_rfl⟩
instance : TSize Try.prog 91 1 := ⟨by kernel_rfl⟩
instance : TPlain Try.prog 93 := ⟨by kernel_rfl⟩
instance : TSize Try.prog 93 1 := ⟨by kernel_rfl⟩
instance : TPlain Try.prog 94 := ⟨by kernel_rfl⟩
instance : TSize Try.prog 94 1 := ⟨by kernel_rfl⟩
instance : TPlain Try.prog 95 := ⟨by kernel_rfl⟩
instance : TSize Try.prog 95 1 := ⟨by kernel_rfl⟩
instance : TPlain Try.prog 96 := ⟨by kernel_rfl⟩
instance : TSize Try.prog 96 1 := ⟨by kernel_rfl⟩
instance : TAgg Try.prog 97 2 := ⟨by kernel_rfl, by kernel_rfl⟩
instance : TSize Try.prog 97 2 := ⟨by kernel_rfl⟩
instance : TZero Try.prog 97 ([.int .i64 0, .int .i64 0]) := ⟨by kernel_rfl⟩
instance : TElem Try.prog 97 2 16 ([.int .i64 0, .int .i64 0]) := ⟨by kernel_rfl, by kernel_rfl⟩
instance : TPlaces Try.prog 97 [(0, 1), (1, 1)] := ⟨by kernel_rfl⟩
instance : TField Try.prog 97 0 0 := ⟨_, _, Try.underlying97, rfl, rfl, by kernel_rfl⟩
instance : TField Try.prog 97 1 1 := ⟨_, _, Try.underlying97, rfl, rfl, by kernel_rfl⟩
instance : TEq Try.prog 97 ([.int .i64 0, .int .i64 0]) := ⟨by kernel_rfl, by kernel_rfl, by kernel_rfl⟩
instance : TAgg Try.prog 98 2 := ⟨by kernel_rfl, by kernel_rfl⟩
instance : TSize Try.prog 98 2 := ⟨by kernel_rfl⟩
instance : TZero Try.prog 98 ([.int .i64 0, .int .i64 0]) := ⟨by kernel_rfl⟩
instance : TElem Try.prog 98 2 16 ([.int .i64 0, .int .i64 0]) := ⟨by kernel_rfl, by kernel_rfl⟩
instance : TPlaces Try.prog 98 [(0, 1), (1, 1)] := ⟨by kernel_rfl⟩
instance : TField Try.prog 98 0 0 := ⟨_, _, Try.underlying98, rfl, rfl, by kernel_rfl⟩
instance : TField Try.prog 98 1 1 := ⟨_, _, Try.underlying98, rfl, rfl, by kernel_rfl⟩
instance : TEq Try.prog 98 ([.int .i64 0, .int .i64 0]) := ⟨by kernel_rfl, by kernel_rfl, by kernel_rfl⟩
instance : TAgg Try.prog 99 8 := ⟨by kernel_rfl, by kernel_rfl⟩
instance : TSize Try.prog 99 8 := ⟨by kernel_rfl⟩
instance : TZero Try.prog 99 ([.int .i64 0, .int .i64 0, .int .i64 0, .int .i64 0, .int .i64 0, .int .i64 0, .int .i64 0, .int .u32 0]) := ⟨by kernel_rfl⟩
instance : TElem Try.prog 99 8 64 ([.int .i64 0, .int .i64 0, .int .i64 0, .int .i64 0, .int .i64 0, .int .i64 0, .int .i64 0, .int .u32 0]) := ⟨by kernel_rfl, by kernel_rfl⟩
instance : TPlaces Try.prog 99 [(0, 2), (2, 1), (3, 1), (4, 1), (5, 1), (6, 1), (7, 1)] := ⟨by kernel_rfl⟩
instance : TField Try.prog 99 0 0 := ⟨_, _, Try.underlying99, rfl, rfl, by kernel_rfl⟩
instance : TField Try.prog 99 1 2 := ⟨_, _, Try.underlying99, rfl, rfl, by kernel_rfl⟩
instance : TField Try.prog 99 2 3 := ⟨_, _, Try.underlying99, rfl, rfl, by kernel_rfl⟩
instance : TField Try.prog 99 3 4 := ⟨_, _, Try.underlying99, rfl, rfl, by kernel_rfl⟩
instance : TField Try.prog 99 4 5 := ⟨_, _, Try.underlying99, rfl, rfl, by kernel_rfl⟩
instance : TField Try.prog 99 5 6 := ⟨_, _, Try.underlying99, rfl, rfl, by kernel_rfl⟩
instance : TField Try.prog 99 6 7 := ⟨_, _, Try.underlying99, rfl, rfl, by kernel_rfl⟩
instance : TEq Try.prog 99 ([.int .i64 0, .int .i64 0, .int .i64 0, .int .i64 0, .int .i64 0, .int .i64 0, .int .i64 0, .int .u32 0]) := ⟨by kernel_rfl, by kernel_rfl, by kernel_rfl⟩
instance : TAgg Try.prog 100 8 := ⟨by kernel_rfl, by kernel_rfl⟩
instance : TSize Try.prog 100 8 := ⟨by kernel_rfl⟩
instance : TZero Try.prog 100 ([.int .i64 0, .int .i64 0, .int .i64 0, .int .i64 0, .int .i64 0, .int .i64 0, .int .i64 0, .int .u32 0]) := ⟨by kernel_rfl⟩
instance : TElem Try.prog 100 8 64 ([.int .i64 0, .int .i64 0, .int .i64 0, .int .i64 0, .int .i64 0, .int .i64 0, .int .i64 0, .int .u32 0]) := ⟨by kernel_rfl, by kernel_rfl⟩
instance : TPlaces Try.prog 100 [(0, 2), (2, 1), (3, 1), (4, 1), (5, 1), (6, 1), (7, 1)] := ⟨by kernel_rfl⟩
instance : TField Try.prog 100 0 0 := ⟨_, _, Try.underlying100, rfl, rfl, by kernel_rfl⟩
instance : TField Try.prog 100 1 2 := ⟨_, _, Try.underlying100, rfl, rfl, by kernel_rfl⟩
instance : TField Try.prog 100 2 3 := ⟨_, _, Try.underlying100, rfl, rfl, by kernel_rfl⟩
instance : TField Try.prog 100 3 4 := ⟨_, _, Try.underlying100, rfl, rfl, by kernel_rfl⟩
instance : TField Try.prog 100 4 5 := ⟨_, _, Try.underlying100, rfl, rfl, by kernel_rfl⟩
instance : TField Try.prog 100 5 6 := ⟨_, _, Try.underlying100, rfl, rfl, by kernel_rfl⟩
instance : TField Try.prog 100 6 7 := ⟨_, _, Try.underlying100, rfl, rfl, by kernel_rfl⟩
instance : TEq Try.prog 100 ([.int .i64 0, .int .i64 0, .int .i64 0, .int .i64 0, .int .i64 0, .int .i64 0, .int .i64 0, .int .u32 0]) := ⟨by kernel_rfl, by kernel_rfl, by kernel_rfl⟩
instance : TAgg Try.prog 101 2 := ⟨by kernel_rfl, by kernel_rfl⟩
instance : TSize Try.prog 101 2 := ⟨by kernel_rfl⟩
instance : TZero Try.prog 101 ([.int .i64 0, .int .i64 0]) := ⟨by kernel_rfl⟩
instance : TElem Try.prog 101 2 16 ([.int .i64 0, .int .i64 0]) := ⟨by kernel_rfl, by kernel_rfl⟩
instance : TPlaces Try.prog 101 [(0, 1), (1, 1)] := ⟨by kernel_rfl⟩
instance : TField Try.prog 101 0 0 := ⟨_, _, Try.underlying101, rfl, rfl, by kernel_rfl⟩
instance : TField Try.prog 101 1 1 := ⟨_, _, Try.underlying101, rfl, rfl, by kernel_rfl⟩
instance : TEq Try.prog 101 ([.int .i64 0, .int .i64 0]) := ⟨by kernel_rfl, by kernel_rfl, by kernel_rfl⟩
instance : TAgg Try.prog 102 8 := ⟨by kernel_rfl, by kernel_rfl⟩
instance : TSize Try.prog 102 8 := ⟨by kernel_rfl⟩
instance : TZero Try.prog 102 ([.int .i64 0, .int .i64 0, .int .i64 0, .int .i64 0, .int .i64 0, .int .i64 0, .int .i64 0, .int .u32 0]) := ⟨by kernel_rfl⟩
instance : TElem Try.prog 102 8 64 ([.int .i64 0, .int .i64 0, .int .i64 0, .int .i64 0, .int .i64 0, .int .i64 0, .int .i64 0, .int .u32 0]) := ⟨by kernel_rfl, by kernel_rfl⟩
instance : TPlaces Try.prog 102 [(0, 2), (2, 1), (3, 1), (4, 1), (5, 1), (6, 1), (7, 1)] := ⟨by kernel_rfl⟩
instance : TField Try.prog 102 0 0 := ⟨_, _, Try.underlying102, rfl, rfl, by kernel_rfl⟩
instance : TField Try.prog 102 1 2 := ⟨_, _, Try.underlying102, rfl, rfl, by kernel_rfl⟩
instance : TField Try.prog 102 2 3 := ⟨_, _, Try.underlying102, rfl, rfl, by kernel_rfl⟩
instance : TField Try.prog 102 3 4 := ⟨_, _, Try.underlying102, rfl, rfl, by kernel_rfl⟩
instance : TField Try.prog 102 4 5 := ⟨_, _, Try.underlying102, rfl, rfl, by kernel_rfl⟩
instance : TField Try.prog 102 5 6 := ⟨_, _, Try.underlying102, rfl, rfl, by kernel_rfl⟩
instance : TField Try.prog 102 6 7 := ⟨_, _, Try.underlying102, rfl, rfl, by kernel_rfl⟩
instance : TEq Try.prog 102 ([.int .i64 0, .int .i64 0, .int .i64 0, .int .i64 0, .int .i64 0, .int .i64 0, .int .i64 0, .int .u32 0]) := ⟨by kernel_rfl, by kernel_rfl, by kernel_rfl⟩
instance : TAgg Try.prog 103 8 := ⟨by kernel_rfl, by kernel_rfl⟩
instance : TSize Try.prog 103 8 := ⟨by kernel_rfl⟩
instance : TZero Try.prog 103 ([.int .i64 0, .int .i64 0, .int .i64 0, .int .i64 0, .int .i64 0, .int .i64 0, .int .i64 0, .int .u32 0]) := ⟨by kernel_rfl⟩
instance : TElem Try.prog 103 8 64 ([.int .i64 0, .int .i64 0, .int .i64 0, .int .i64 0, .int .i64 0, .int .i64 0, .int .i64 0, .int .u32 0]) := ⟨by kernel_rfl, by kernel_rfl⟩
instance : TPlaces Try.prog 103 [(0, 2), (2, 1), (3, 1), (4, 1), (5, 1), (6, 1), (7, 1)] := ⟨by kernel_rfl⟩
instance : TField Try.prog 103 0 0 := ⟨_, _, Try.underlying103, rfl, rfl, by kernel_rfl⟩
instance : TField Try.prog 103 1 2 := ⟨_, _, Try.underlying103, rfl, rfl, by kernel_rfl⟩
instance : TField Try.prog 103 2 3 := ⟨_, _, Try.underlying103, rfl, rfl, by kernel_rfl⟩
instance : TField Try.prog 103 3 4 := ⟨_, _, Try.underlying103, rfl, rfl, by kernel_rfl⟩
instance : TField Try.prog 103 4 5 := ⟨_, _, Try.underlying103, rfl, rfl, by kernel_rfl⟩
instance : TField Try.prog 103 5 6 := ⟨_, _, Try.underlying103, rfl, rfl, by kernel_rfl⟩
instance : TField Try.prog 103 6 7 := ⟨_, _, Try.underlying103, rfl, rfl, by kernel_rfl⟩
instance : TEq Try.prog 103 ([.int .i64 0, .int .i64 0, .int .i64 0, .int .i64 0, .int .i64 0, .int .i64 0, .int .i64 0, .int .u32 0]) := ⟨by kernel_rfl, by kernel_rfl, by kernel_rfl⟩
instance : TPlain Try.prog 104 := ⟨by kernel_rfl⟩
instance : TSize Try.prog 104 1 := ⟨by kernel_rfl⟩
instance : TAgg Try.prog 105 2 := ⟨by kernel_rfl, by kernel_rfl⟩
instance : TSize Try.prog 105 2 := ⟨by kernel_rfl⟩
instance : TZero Try.prog 105 ([.int .i64 0, .int .i64 0]) := ⟨by kernel_rfl⟩
instance : TElem Try.prog 105 2 16 ([.int .i64 0, .int .i64 0]) := ⟨by kernel_rfl, by kernel_rfl⟩
instance : TEq Try.prog 105 ([.int .i64 0, .int .i64 0]) := ⟨by kernel_rfl, by kernel_rfl, by kernel_rfl⟩
instance : TArr Try.prog 105 2 3 1 := ⟨Try.underlying105, by kernel_rfl⟩
instance : TAgg Try.prog 106 2 := ⟨by kernel_rfl, by kernel_rfl⟩
instance : TSize Try.prog 106 2 := ⟨by kernel_rfl⟩
instance : TZero Try.prog 106 ([.int .i64 0, .int .i64 0]) := ⟨by kernel_rfl⟩
instance : TElem Try.prog 106 2 16 ([.int .i64 0, .int .i64 0]) := ⟨by kernel_rfl, by kernel_rfl⟩
instance : TEq Try.prog 106 ([.int .i64 0, .int .i64 0]) := ⟨by kernel_rfl, by kernel_rfl, by kernel_rfl⟩
instance : TArr Try.prog 106 2 2 1 := ⟨Try.underlying106, by kernel_rfl⟩
instance : TPlain Try.prog 108 := ⟨by kernel_rfl⟩
instance : TSize Try.prog 108 1 := ⟨by kernel_rfl⟩
instance : TPlain Try.prog 109 := ⟨by kernel_rfl⟩
instance : TSize Try.prog 109 1 := ⟨by kernel_rfl⟩
instance : TPlain Try.prog 111 := ⟨by kernel_rfl⟩
instance : TSize Try.prog 111 1 := ⟨by kernel_rfl⟩
instance : TPlain Try.prog 113 := ⟨by kernel_rfl⟩
instance : TSize Try.prog 113 1 := ⟨by kernel_rfl⟩
instance : TPlain Try.prog 114 := ⟨by kernel_rfl⟩
instance : TSize Try.prog 114 1 := ⟨by kernel_rfl⟩
instance : TAgg Try.prog 115 5 := ⟨by kernel_rfl, by kernel_rfl⟩
instance : TSize Try.prog 115 5 := ⟨by kernel_rfl⟩
instance : TZero Try.prog 115 ([.int .i64 0, .int .i64 0, .int .i64 0, .int .i64 0, .int .i64 0]) := ⟨by kernel_rfl⟩
instance : TElem Try.prog 115 5 40 ([.int .i64 0, .int .i64 0, .int .i64 0, .int .i64 0, .int .i64 0]) := ⟨by kernel_rfl, by kernel_rfl⟩
instance : TPlaces Try.prog 115 [(0, 1), (1, 1), (2, 1), (3, 1), (4, 1)] := ⟨by kernel_rfl⟩
instance : TField Try.prog 115 0 0 := ⟨_, _, Try.underlying115, rfl, rfl, by kernel_rfl⟩
instance : TField Try.prog 115 1 1 := ⟨_, _, Try.underlying115, rfl, rfl, by kernel_rfl⟩
instance : TField Try.prog 115 2 2 := ⟨_, _, Try.underlying115, rfl, rfl, by kernel_rfl⟩
instance : TField Try.prog 115 3 3 := ⟨_, _, Try.underlying115, rfl, rfl, by kernel_rfl⟩
instance : TField Try.prog 115 4 4 := ⟨_, _, Try.underlying115, rfl, rfl, by kernel_rfl⟩
instance : TEq Try.prog 115 ([.int .i64 0, .int .i64 0, .int .i64 0, .int .i64 0, .int .i64 0]) := ⟨by kernel_rfl, by kernel_rfl, by kernel_rfl⟩
instance : TAgg Try.prog 116 5 := ⟨by kernel_rfl, by kernel_rfl⟩
instance : TSize Try.prog 116 5 := ⟨by kernel_rfl⟩
instance : TZero Try.prog 116 ([.int .i64 0, .int .i64 0, .int .i64 0, .int .i64 0, .int .i64 0]) := ⟨by kernel_rfl⟩
instance : TElem Try.prog 116 5 40 ([.int .i64 0, .int .i64 0, .int .i64 0, .int .i64 0, .int .i64 0]) := ⟨by kernel_rfl, by kernel_rfl⟩
instance : TPlaces Try.prog 116 [(0, 1), (1, 1), (2, 1), (3, 1), (4, 1)] := ⟨by kernel_rfl⟩
instance : TField Try.prog 116 0 0 := ⟨_, _, Try.underlying116, rfl, rfl, by kernel_rfl⟩
instance : TField Try.prog 116 1 1 := ⟨_, _, Try.underlying116, rfl, rfl, by kernel_rfl⟩
instance : TField Try.prog 116 2 2 := ⟨_, _, Try.underlying116, rfl, rfl, by kernel_rfl⟩
instance : TField Try.prog 116 3 3 := ⟨_, _, Try.underlying116, rfl, rfl, by kernel_rfl⟩
instance : TField Try.prog 116 4 4 := ⟨_, _, Try.underlying116, rfl, rfl, by kernel_rfl⟩
instance : TEq Try.prog 116 ([.int .i64 0, .int .i64 0, .int .i64 0, .int .i64 0, .int .i64 0]) := ⟨by kernel_rfl, by kernel_rfl, by kernel_rfl⟩
instance : TPlain Try.prog 117 := ⟨by kernel_rfl⟩
instance : TSize Try.prog 117 1 := ⟨by kernel_rfl⟩
instance : TPlain Try.prog 118 := ⟨by kernel_rfl⟩
instance : TSize Try.prog 118 1 := ⟨by kernel_rfl⟩
instance : TPlain Try.prog 119 := ⟨by kernel_rfl⟩
instance : TSize Try.prog 119 1 := ⟨by kernel_rfl⟩
instance : TPlain Try.prog 120 := ⟨by kernel_rfl⟩
instance : TSize Try.prog 120 1 := ⟨by kernel_rfl⟩
instance : TPlain Try.prog 121 := ⟨by kernel_rfl⟩
instance : TSize Try.prog 121 1 := ⟨by kernel_rfl⟩
instance : TPlain Try.prog 122 := ⟨by kernel_rfl⟩
instance : TSize Try.prog 122 1 := ⟨by kernel_rfl⟩
instance : TPlain Try.prog 123 := ⟨by kernel_rfl⟩
instance : TSize Try.prog 123 1 := ⟨by kernel_rfl⟩
instance : TPlain Try.prog 125 := ⟨by kernel_rfl⟩
instance : TSize Try.prog 125 1 := ⟨by kernel_rfl⟩
instance : TPlain Try.prog 126 := ⟨by kernel_rfl⟩
instance : TSize Try.prog 126 1 := ⟨by kernel_rfl⟩
instance : TPlain Try.prog 127 := ⟨by kernel_rfl⟩
instance : TSize Try.prog 127 1 := ⟨by kernel_rfl⟩
instance : TPlain Try.prog 128 := ⟨by kernel_rfl⟩
instance : TSize Try.prog 128 1 := ⟨by kernel_rfl⟩
instance : TPlain Try.prog 129 := ⟨by kernel_rfl⟩
instance : TSize Try.prog 129 1 := ⟨by kernel_rfl⟩
instance : TZero Try.prog 129 ([.int .u64 0]) := ⟨by kernel_rfl⟩
instance : TElem Try.prog 129 1 8 ([.int .u64 0]) := ⟨by kernel_rfl, by kernel_rfl⟩
instance : TInt Try.prog 129 .u64 := ⟨Try.underlying129⟩
instance : TPlain Try.prog 130 := ⟨by kernel_rfl⟩
instance : TSize Try.prog 130 1 := ⟨by kernel_rfl⟩
instance : TZero Try.prog 130 ([.slice none 0 0]) := ⟨by kernel_rfl⟩
instance : TElem Try.prog 130 1 24 ([.slice none 0 0]) := ⟨by kernel_rfl, by kernel_rfl⟩
instance : TSlice Try.prog 130 139 := ⟨Try.underlying130⟩
instance : TAgg Try.prog 131 4 := ⟨by kernel_rfl, by kernel_rfl⟩
instance : TSize Try.prog 131 4 := ⟨by kernel_rfl⟩
instance : TZero Try.prog 131 ([.slice none 0 0, .slice none 0 0, .bool false, .int .i64 0]) := ⟨by kernel_rfl⟩
instance : TElem Try.prog 131 4 64 ([.slice none 0 0, .slice none 0 0, .bool false, .int .i64 0]) := ⟨by kernel_rfl, by kernel_rfl⟩
instance : TPlaces Try.prog 131 [(0, 1), (1, 1), (2, 1), (3, 1)] := ⟨by kernel_rfl⟩
instance : TField Try.prog 131 0 0 := ⟨_, _, Try.underlying131, rfl, rfl, by kernel_rfl⟩
instance : TField Try.prog 131 1 1 := ⟨_, _, Try.underlying131, rfl, rfl, by kernel_rfl⟩
instance : TField Try.prog 131 2 2 := ⟨_, _, Try.underlying131, rfl, rfl, by kernel_rfl⟩
instance : TField Try.prog 131 3 3 := ⟨_, _, Try.underlying131, rfl, rfl, by kernel_rfl⟩
instance : TAgg Try.prog 132 4 := ⟨by kernel_rfl, by kernel_rfl⟩
instance : TSize Try.prog 132 4 := ⟨by kernel_rfl⟩
instance : TZero Try.prog 132 ([.slice none 0 0, .slice none 0 0, .bool false, .int .i64 0]) := ⟨by kernel_rfl⟩
instance : TElem Try.prog 132 4 64 ([.slice none 0 0, .slice none 0 0, .bool false, .int .i64 0]) := ⟨by kernel_rfl, by kernel_rfl⟩
instance : TPlaces Try.prog 132 [(0, 1), (1, 1), (2, 1), (3, 1)] := ⟨by kernel_rfl⟩
instance : TField Try.prog 132 0 0 := ⟨_, _, Try.underlying132, rfl, rfl, by kernel_rfl⟩
instance : TField Try.prog 132 1 1 := ⟨_, _, Try.underlying132, rfl, rfl, by kernel_rfl⟩
instance : TField Try.prog 132 2 2 := ⟨_, _, Try.underlying132, rfl, rfl, by kernel_rfl⟩
instance : TField Try.prog 132 3 3 := ⟨_, _, Try.underlying132, rfl, rfl, by kernel_rfl⟩
instance : TPlain Try.prog 133 := ⟨by kernel_rfl⟩
instance : TSize Try.prog 133 1 := ⟨by kernel_rfl⟩
instance : TPlain Try.prog 134 := ⟨by kernel_rfl⟩
instance : TSize Try.prog 134 1 := ⟨by kernel_rfl⟩
instance : TAgg Try.prog 135 4 := ⟨by kernel_rfl, by kernel_rfl⟩
instance : TSize Try.prog 135 4 := ⟨by kernel_rfl⟩
instance : TZero Try.prog 135 ([.int .u8 0, .int .i64 0, .int .u64 0, .slice none 0 0]) := ⟨by kernel_rfl⟩
instance : TElem Try.prog 135 4 48 ([.int .u8 0, .int .i64 0, .int .u64 0, .slice none 0 0]) := ⟨by kernel_rfl, by kernel_rfl⟩
instance : TPlaces Try.prog 135 [(0, 1), (1, 1), (2, 1), (3, 1)] := ⟨by kernel_rfl⟩
instance : TField Try.prog 135 0 0 := ⟨_, _, Try.underlying135, rfl, rfl, by kernel_rfl⟩
instance : TField Try.prog 135 1 1 := ⟨_, _, Try.underlying135, rfl, rfl, by kernel_rfl⟩
instance : TField Try.prog 135 2 2 := ⟨_, _, Try.underlying135, rfl, rfl, by kernel_rfl⟩
instance : TField Try.prog 135 3 3 := ⟨_, _, Try.underlying135, rfl, rfl, by kernel_rfl⟩
instance : TPlain Try.prog 137 := ⟨by kernel_rfl⟩
instance : TSize Try.prog 137 1 := ⟨by kernel_rfl⟩
instance : TAgg Try.prog 138 2 := ⟨by kernel_rfl, by kernel_rfl⟩
instance : TSize Try.prog 138 2 := ⟨by kernel_rfl⟩
instance : TZero Try.prog 138 ([.int .i64 0, .slice none 0 0]) := ⟨by kernel_rfl⟩
instance : TElem Try.prog 138 2 32 ([.int .i64 0, .slice none 0 0]) := ⟨by kernel_rfl, by kernel_rfl⟩
instance : TPlaces Try.prog 138 [(0, 1), (1, 1)] := ⟨by kernel_rfl⟩
instance : TField Try.prog 138 0 0 := ⟨_, _, Try.underlying138, rfl, rfl, by kernel_rfl⟩
instance : TField Try.prog 138 1 1 := ⟨_, _, Try.underlying138, rfl, rfl, by kernel_rfl⟩
instance : TAgg Try.prog 139 2 := ⟨by kernel_rfl, by kernel_rfl⟩
instance : TSize Try.prog 139 2 := ⟨by kernel_rfl⟩
instance : TZero Try.prog 139 ([.int .i64 0, .slice none 0 0]) := ⟨by kernel_rfl⟩
instance : TElem Try.prog 139 2 32 ([.int .i64 0, .slice none 0 0]) := ⟨by kernel_rfl, by kernel_rfl⟩
instance : TPlaces Try.prog 139 [(0, 1), (1, 1)] := ⟨by kernel_rfl⟩
instance : TField Try.prog 139 0 0 := ⟨_, _, Try.underlying139, rfl, rfl, by kernel_rfl⟩
instance : TField Try.prog 139 1 1 := ⟨_, _, Try.underlying139, rfl, rfl, by kernel_rfl⟩
instance : TPlain Try.prog 140 := ⟨by kernel_rfl⟩
instance : TSize Try.prog 140 1 := ⟨by kernel_rfl⟩
instance : TPlain Try.prog 141 := ⟨by kernel_rfl⟩
instance : TSize Try.prog 141 1 := ⟨by kernel_rfl⟩
instance : TPlain Try.prog 142 := ⟨by kernel_rfl⟩
instance : TSize Try.prog 142 1 := ⟨by kernel_rfl⟩
instance : TPlain Try.prog 144 := ⟨by kernel_rfl⟩
instance : TSize Try.prog 144 1 := ⟨by kernel_rfl⟩
instance : TPlain Try.prog 146 := ⟨by kernel_rfl⟩
instance : TSize Try.prog 146 1 := ⟨by kernel_rfl⟩
instance : TAgg Try.prog 147 512 := ⟨by kernel_rfl, by kernel_rfl⟩
instance : TSize Try.prog 147 512 := ⟨by kernel_rfl⟩
instance : TZero Try.prog 147 (List.replicate 512 (.bool false)) := ⟨by kernel_rfl⟩
instance : TElem Try.prog 147 512 512 (List.replicate 512 (.bool false)) := ⟨by kernel_rfl, by kernel_rfl⟩
instance : TEq Try.prog 147 (List.replicate 512 (.bool false)) := ⟨by kernel_rfl, by kernel_rfl, by kernel_rfl⟩
instance : TArr Try.prog 147 512 4 1 := ⟨Try.underlying147, by kernel_rfl⟩
instance : TAgg Try.prog 148 513 := ⟨by kernel_rfl, by kernel_rfl⟩
instance : TSize Try.prog 148 513 := ⟨by kernel_rfl⟩
instance : TZero Try.prog 148 ([.int .i64 0] ++ (List.replicate 512 (.bool false))) := ⟨by kernel_rfl⟩
instance : TElem Try.prog 148 513 520 ([.int .i64 0] ++ (List.replicate 512 (.bool false))) := ⟨by kernel_rfl, by kernel_rfl⟩
instance : TPlaces Try.prog 148 [(0, 1), (1, 512)] := ⟨by kernel_rfl⟩
instance : TField Try.prog 148 0 0 := ⟨_, _, Try.underlying148, rfl, rfl, by kernel_rfl⟩
instance : TField Try.prog 148 1 1 := ⟨_, _, Try.underlying148, rfl, rfl, by kernel_rfl⟩
instance : TEq Try.prog 148 ([.int .i64 0] ++ (List.replicate 512 (.bool false))) := ⟨by kernel_rfl, by kernel_rfl, by kernel_rfl⟩
instance : TAgg Try.prog 149 513 := ⟨by kernel_rfl, by kernel_rfl⟩
instance : TSize Try.prog 149 513 := ⟨by kernel_rfl⟩
instance : TZero Try.prog 149 ([.int .i64 0] ++ (List.replicate 512 (.bool false))) := ⟨by kernel_rfl⟩
instance : TElem Try.prog 149 513 520 ([.int .i64 0] ++ (List.replicate 512 (.bool false))) := ⟨by kernel_rfl, by kernel_rfl⟩
instance : TPlaces Try.prog 149 [(0, 1), (1, 512)] := ⟨by kernel_rfl⟩
instance : TField Try.prog 149 0 0 := ⟨_, _, Try.underlying149, rfl, rfl, by kernel_rfl⟩
instance : TField Try.prog 149 1 1 := ⟨_, _, Try.underlying149, rfl, rfl, by kernel_rfl⟩
instance : TEq Try.prog 149 ([.int .i64 0] ++ (List.replicate 512 (.bool false))) := ⟨by kernel_rfl, by kernel_rfl, by kernel_rfl⟩
instance : TPlain Try.prog 150 := ⟨by kernel_rfl⟩
instance : TSize Try.prog 150 1 := ⟨by kernel_rfl⟩
instance : TPlain Try.prog 151 := ⟨by kernel_rfl⟩
instance : TSize Try.prog 151 1 := ⟨by kernel_rfl⟩
instance : TPlain Try.prog 152 := ⟨by kernel_rfl⟩
instance : TSize Try.prog 152 1 := ⟨by kernel_rfl⟩
instance : TZero Try.prog 152 ([.pointer none]) := ⟨by kernel_rfl⟩
instance : TElem Try.prog 152 1 8 ([.pointer none]) := ⟨by kernel_rfl, by kernel_rfl⟩
instance : TPtr Try.prog 152 := ⟨by kernel_rfl⟩
instance : TAgg Try.prog 153 2 := ⟨by kernel_rfl, by kernel_rfl⟩
instance : TSize Try.prog 153 2 := ⟨by kernel_rfl⟩
instance : TZero Try.prog 153 ([.pointer none, .int .i64 0]) := ⟨by kernel_rfl⟩
instance : TElem Try.prog 153 2 16 ([.pointer none, .int .i64 0]) := ⟨by kernel_rfl, by kernel_rfl⟩
instance : TPlaces Try.prog 153 [(0, 1), (1, 1)] := ⟨by kernel_rfl⟩
instance : TField Try.prog 153 0 0 := ⟨_, _, Try.underlying153, rfl, rfl, by kernel_rfl⟩
instance : TField Try.prog 153 1 1 := ⟨_, _, Try.underlying153, rfl, rfl, by kernel_rfl⟩
instance : TAgg Try.prog 154 2 := ⟨by kernel_rfl, by kernel_rfl⟩
instance : TSize Try.prog 154 2 := ⟨by kernel_rfl⟩
instance : TZero Try.prog 154 ([.pointer none, .int .i64 0]) := ⟨by kernel_rfl⟩
instance : TElem Try.prog 154 2 16 ([.pointer none, .int .i64 0]) := ⟨by kernel_rfl, by kernel_rfl⟩
instance : TPlaces Try.prog 154 [(0, 1), (1, 1)] := ⟨by kernel_rfl⟩
instance : TField Try.prog 154 0 0 := ⟨_, _, Try.underlying154, rfl, rfl, by kernel_rfl⟩
instance : TField Try.prog 154 1 1 := ⟨_, _, Try.underlying154, rfl, rfl, by kernel_rfl⟩
instance : TPlain Try.prog 155 := ⟨by kernel_rfl⟩
instance : TSize Try.prog 155 1 := ⟨by kernel_rfl⟩
instance : TPlain Try.prog 157 := ⟨by kernel_rfl⟩
instance : TSize Try.prog 157 1 := ⟨by kernel_rfl⟩
instance : TPlain Try.prog 158 := ⟨by kernel_rfl⟩
instance : TSize Try.prog 158 1 := ⟨by kernel_rfl⟩
instance : TPlain Try.prog 159 := ⟨by kernel_rfl⟩
instance : TSize Try.prog 159 1 := ⟨by kernel_rfl⟩
instance : TPlain Try.prog 160 := ⟨by kernel_rfl⟩
instance : TSize Try.prog 160 1 := ⟨by kernel_rfl⟩
instance : TPlain Try.prog 161 := ⟨by kernel_rfl⟩
instance : TSize Try.prog 161 1 := ⟨by kernel_rfl⟩
instance : TPlain Try.prog 162 := ⟨by kernel_rfl⟩
instance : TSize Try.prog 162 1 := ⟨by kernel_rfl⟩
instance : TPlain Try.prog 163 := ⟨by kernel_rfl⟩
instance : TSize Try.prog 163 1 := ⟨by kernel_rfl⟩
instance : TPlain Try.prog 164 := ⟨by kernel_rfl⟩
instance : TSize Try.prog 164 1 := ⟨by kernel_rfl⟩
instance : TPlain Try.prog 166 := ⟨by kernel_rfl⟩
instance : TSize Try.prog 166 1 := ⟨by kernel_rfl⟩
instance : TPlain Try.prog 167 := ⟨by kernel_rfl⟩
instance : TSize Try.prog 167 1 := ⟨by kernel_rfl⟩
instance : TPlain Try.prog 168 := ⟨by kernel_rfl⟩
instance : TSize Try.prog 168 1 := ⟨by kernel_rfl⟩
instance : TPlain Try.prog 169 := ⟨by kernel_rfl⟩
instance : TSize Try.prog 169 1 := ⟨by kernel_rfl⟩
instance : TPlain Try.prog 170 := ⟨by kernel_rfl⟩
instance : TSize Try.prog 170 1 := ⟨by kernel_rfl⟩
instance : TZero Try.prog 170 ([.slice none 0 0]) := ⟨by kernel_rfl⟩
instance : TElem Try.prog 170 1 24 ([.slice none 0 0]) := ⟨by kernel_rfl, by kernel_rfl⟩
instance : TSlice Try.prog 170 30 := ⟨Try.underlying170⟩
instance : TPlain Try.prog 171 := ⟨by kernel_rfl⟩
instance : TSize Try.prog 171 1 := ⟨by kernel_rfl⟩
instance : TPlain Try.prog 172 := ⟨by kernel_rfl⟩
instance : TSize Try.prog 172 1 := ⟨by kernel_rfl⟩
instance : TZero Try.prog 172 ([.slice none 0 0]) := ⟨by kernel_rfl⟩
instance : TElem Try.prog 172 1 24 ([.slice none 0 0]) := ⟨by kernel_rfl, by kernel_rfl⟩
instance : TSlice Try.prog 172 31 := ⟨Try.underlying172⟩
instance : TPlain Try.prog 173 := ⟨by kernel_rfl⟩
instance : TSize Try.prog 173 1 := ⟨by kernel_rfl⟩
instance : TPlain Try.prog 174 := ⟨by kernel_rfl⟩
instance : TSize Try.prog 174 1 := ⟨by kernel_rfl⟩
instance : TZero Try.prog 174 ([.slice none 0 0]) := ⟨by kernel_rfl⟩
instance : TElem Try.prog 174 1 24 ([.slice none 0 0]) := ⟨by kernel_rfl, by kernel_rfl⟩
instance : TSlice Try.prog 174 24 := ⟨Try.underlying174⟩
instance : TPlain Try.prog 175 := ⟨by kernel_rfl⟩
instance : TSize Try.prog 175 1 := ⟨by kernel_rfl⟩
instance : TPlain Try.prog 176 := ⟨by kernel_rfl⟩
instance : TSize Try.prog 176 1 := ⟨by kernel_rfl⟩
instance : TPlain Try.prog 177 := ⟨by kernel_rfl⟩
instance : TSize Try.prog 177 1 := ⟨by kernel_rfl⟩
instance : TZero Try.prog 177 ([.pointer none]) := ⟨by kernel_rfl⟩
instance : TElem Try.prog 177 1 8 ([.pointer none]) := ⟨by kernel_rfl, by kernel_rfl⟩
instance : TPtr Try.prog 177 := ⟨by kernel_rfl⟩
instance : TAgg Try.prog 178 1 := ⟨by kernel_rfl, by kernel_rfl⟩
instance : TSize Try.prog 178 1 := ⟨by kernel_rfl⟩
instance : TZero Try.prog 178 ([.slice none 0 0]) := ⟨by kernel_rfl⟩
instance : TElem Try.prog 178 1 24 ([.slice none 0 0]) := ⟨by kernel_rfl, by kernel_rfl⟩
instance : TPlaces Try.prog 178 [(0, 1)] := ⟨by kernel_rfl⟩
instance : TField Try.prog 178 0 0 := ⟨_, _, Try.underlying178, rfl, rfl, by kernel_rfl⟩
instance : TAgg Try.prog 179 1 := ⟨by kernel_rfl, by kernel_rfl⟩
instance : TSize Try.prog 179 1 := ⟨by kernel_rfl⟩
instance : TZero Try.prog 179 ([.slice none 0 0]) := ⟨by kernel_rfl⟩
instance : TElem Try.prog 179 1 24 ([.slice none 0 0]) := ⟨by kernel_rfl, by kernel_rfl⟩
instance : TPlaces Try.prog 179 [(0, 1)] := ⟨by kernel_rfl⟩
instance : TField Try.prog 179 0 0 := ⟨_, _, Try.underlying179, rfl, rfl, by kernel_rfl⟩
instance : TPlain Try.prog 180 := ⟨by kernel_rfl⟩
instance : TSize Try.prog 180 1 := ⟨by kernel_rfl⟩
instance : TPlain Try.prog 181 := ⟨by kernel_rfl⟩
instance : TSize Try.prog 181 1 := ⟨by kernel_rfl⟩
instance : TPlain Try.prog 182 := ⟨by kernel_rfl⟩
instance : TSize Try.prog 182 1 := ⟨by kernel_rfl⟩
instance : TPlain Try.prog 183 := ⟨by kernel_rfl⟩
instance : TSize Try.prog 183 1 := ⟨by kernel_rfl⟩
instance : TPlain Try.prog 184 := ⟨by kernel_rfl⟩
instance : TSize Try.prog 184 1 := ⟨by kernel_rfl⟩
instance : TPlain Try.prog 185 := ⟨by kernel_rfl⟩
instance : TSize Try.prog 185 1 := ⟨by kernel_rfl⟩
instance : TPlain Try.prog 186 := ⟨by kernel_rfl⟩
instance : TSize Try.prog 186 1 := ⟨by kernel_rfl⟩
instance : TPlain Try.prog 188 := ⟨by kernel_rfl⟩
instance : TSize Try.prog 188 1 := ⟨by kernel_rfl⟩
instance : TPlain Try.prog 189 := ⟨by kernel_rfl⟩
instance : TSize Try.prog 189 1 := ⟨by kernel_rfl⟩
instance : TPlain Try.prog 190 := ⟨by kernel_rfl⟩
instance : TSize Try.prog 190 1 := ⟨by kernel_rfl⟩
instance : TPlain Try.prog 191 := ⟨by kernel_rfl⟩
instance : TSize Try.prog 191 1 := ⟨by kernel_rfl⟩
instance : TPlain Try.prog 192 := ⟨by kernel_rfl⟩
instance : TSize Try.prog 192 1 := ⟨by kernel_rfl⟩
instance : TAgg Try.prog 193 1284 := ⟨by kernel_rfl, by kernel_rfl⟩
instance : TSize Try.prog 193 1284 := ⟨by kernel_rfl⟩
instance : TZero Try.prog 193 (List.replicate 256 (.int .u32 0) ++ ([.pointer none, .int .u64 0, .int .i64 0] ++ (List.replicate 512 (.bool false) ++ ([.int .i64 0] ++ (List.replicate 512 (.bool false)))))) := ⟨by kernel_rfl⟩
instance : TElem Try.prog 193 1284 2080 (List.replicate 256 (.int .u32 0) ++ ([.pointer none, .int .u64 0, .int .i64 0] ++ (List.replicate 512 (.bool false) ++ ([.int .i64 0] ++ (List.replicate 512 (.bool false)))))) := ⟨by kernel_rfl, by kernel_rfl⟩
instance : TPlaces Try.prog 193 [(0, 256), (256, 1), (257, 1), (258, 513), (771, 513)] := ⟨by kernel_rfl⟩
instance : TField Try.prog 193 0 0 := ⟨_, _, Try.underlying193, rfl, rfl, by kernel_rfl⟩
instance : TField Try.prog 193 1 256 := ⟨_, _, Try.underlying193, rfl, rfl, by kernel_rfl⟩
instance : TField Try.prog 193 2 257 := ⟨_, _, Try.underlying193, rfl, rfl, by kernel_rfl⟩
instance : TField Try.prog 193 3 258 := ⟨_, _, Try.underlying193, rfl, rfl, by kernel_rfl⟩
instance : TField Try.prog 193 4 771 := ⟨_, _, Try.underlying193, rfl, rfl, by kernel_rfl⟩
instance : TAgg Try.prog 194 1284 := ⟨by kernel_rfl, by kernel_rfl⟩
instance : TSize Try.prog 194 1284 := ⟨by kernel_rfl⟩
instance : TZero Try.prog 194 (List.replicate 256 (.int .u32 0) ++ ([.pointer none, .int .u64 0, .int .i64 0] ++ (List.replicate 512 (.bool false) ++ ([.int .i64 0] ++ (List.replicate 512 (.bool false)))))) := ⟨by kernel_rfl⟩
instance : TElem Try.prog 194 1284 2080 (List.replicate 256 (.int .u32 0) ++ ([.pointer none, .int .u64 0, .int .i64 0] ++ (List.replicate 512 (.bool false) ++ ([.int .i64 0] ++ (List.replicate 512 (.bool false)))))) := ⟨by kernel_rfl, by kernel_rfl⟩
instance : TPlaces Try.prog 194 [(0, 256), (256, 1), (257, 1), (258, 513), (771, 513)] := ⟨by kernel_rfl⟩
instance : TField Try.prog 194 0 0 := ⟨_, _, Try.underlying194, rfl, rfl, by kernel_rfl⟩
instance : TField Try.prog 194 1 256 := ⟨_, _, Try.underlying194, rfl, rfl, by kernel_rfl⟩
instance : TField Try.prog 194 2 257 := ⟨_, _, Try.underlying194, rfl, rfl, by kernel_rfl⟩
instance : TField Try.prog 194 3 258 := ⟨_, _, Try.underlying194, rfl, rfl, by kernel_rfl⟩
instance : TField Try.prog 194 4 771 := ⟨_, _, Try.underlying194, rfl, rfl, by kernel_rfl⟩
instance : TPlain Try.prog 195 := ⟨by kernel_rfl⟩
instance : TSize Try.prog 195 1 := ⟨by kernel_rfl⟩
instance : TPlain Try.prog 196 := ⟨by kernel_rfl⟩
instance : TSize Try.prog 196 1 := ⟨by kernel_rfl⟩
instance : TPlain Try.prog 197 := ⟨by kernel_rfl⟩
instance : TSize Try.prog 197 1 := ⟨by kernel_rfl⟩
instance : TPlain Try.prog 198 := ⟨by kernel_rfl⟩
instance : TSize Try.prog 198 1 := ⟨by kernel_rfl⟩
instance : TPlain Try.prog 199 := ⟨by kernel_rfl⟩
instance : TSize Try.prog 199 1 := ⟨by kernel_rfl⟩
instance : TPlain Try.prog 200 := ⟨by kernel_rfl⟩
instance : TSize Try.prog 200 1 := ⟨by kernel_rfl⟩
instance : TPlain Try.prog 201 := ⟨by kernel_rfl⟩
instance : TSize Try.prog 201 1 := ⟨by kernel_rfl⟩
instance : TPlain Try.prog 202 := ⟨by kernel_rfl⟩
instance : TSize Try.prog 202 1 := ⟨by kernel_rfl⟩
instance : TPlain Try.prog 203 := ⟨by kernel_rfl⟩
instance : TSize Try.prog 203 1 := ⟨by kernel_rfl⟩
instance : TPlain Try.prog 204 := ⟨by kernel_rfl⟩
instance : TSize Try.prog 204 1 := ⟨by kernel_rfl⟩
instance : TPlain Try.prog 205 := ⟨by kernel_rfl⟩
instance : TSize Try.prog 205 1 := ⟨by kernel_rfl⟩
instance : TPlain Try.prog 206 := ⟨by kernel_rfl⟩
instance : TSize Try.prog 206 1 := ⟨by kernel_rfl⟩
instance : TPlain Try.prog 207 := ⟨by kernel_rfl⟩
instance : TSize Try.prog 207 1 := ⟨by kernel_rfl⟩
instance : TPlain Try.prog 208 := ⟨by kernel_rfl⟩
instance : TSize Try.prog 208 1 := ⟨by kernel_rfl⟩
instance : TPlain Try.prog 209 := ⟨by kernel_rfl⟩
instance : TSize Try.prog 209 1 := ⟨by kernel_rfl⟩
instance : TPlain Try.prog 210 := ⟨by kernel_rfl⟩
instance : TSize Try.prog 210 1 := ⟨by kernel_rfl⟩
instance : TPlain Try.prog 211 := ⟨by kernel_rfl⟩
instance : TSize Try.prog 211 1 := ⟨by kernel_rfl⟩
instance : TPlain Try.prog 212 := ⟨by kernel_rfl⟩
instance : TSize Try.prog 212 1 := ⟨by kernel_rfl⟩
instance : TPlain Try.prog 213 := ⟨by kernel_rfl⟩
instance : TSize Try.prog 213 1 := ⟨by kernel_rfl⟩
instance : TPlain Try.prog 214 := ⟨by kernel_rfl⟩
instance : TSize Try.prog 214 1 := ⟨by kernel_rfl⟩
instance : TPlain Try.prog 215 := ⟨by kernel_rfl⟩
instance : TSize Try.prog 215 1 := ⟨by kernel_rfl⟩
instance : TPlain Try.prog 216 := ⟨by kernel_rfl⟩
instance : TSize Try.prog 216 1 := ⟨by kernel_rfl⟩
instance : TPlain Try.prog 217 := ⟨by kernel_rfl⟩
instance : TSize Try.prog 217 1 := ⟨by kernel_rfl⟩
instance : TPlain Try.prog 218 := ⟨by kernel_rfl⟩
instance : TSize Try.prog 218 1 := ⟨by kernel_rfl⟩
instance : TPlain Try.prog 219 := ⟨by kernel_rfl⟩
instance : TSize Try.prog 219 1 := ⟨by kernel_rfl⟩
instance : TPlain Try.prog 220 := ⟨by kernel_rfl⟩
instance : TSize Try.prog 220 1 := ⟨by kernel_rfl⟩
instance : TPlain Try.prog 222 := ⟨by kernel_rfl⟩
instance : TSize Try.prog 222 1 := ⟨by kernel_rfl⟩
instance : TPlain Try.prog 223 := ⟨by kernel_rfl⟩
instance : TSize Try.prog 223 1 := ⟨by kernel_rfl⟩
instance : TPlain Try.prog 224 := ⟨by kernel_rfl⟩
instance : TSize Try.prog 224 1 := ⟨by kernel_rfl⟩
instance : TPlain Try.prog 225 := ⟨by kernel_rfl⟩
instance : TSize Try.prog 225 1 := ⟨by kernel_rfl⟩
instance : TPlain Try.prog 226 := ⟨by kernel_rfl⟩
instance : TSize Try.prog 226 1 := ⟨by kernel_rfl⟩
instance : TPlain Try.prog 228 := ⟨by kernel_rfl⟩
instance : TSize Try.prog 228 1 := ⟨by kernel_rfl⟩
instance : TPlain Try.prog 229 := ⟨by kernel_rfl⟩
instance : TSize Try.prog 229 1 := ⟨by kernel_rfl⟩
instance : TPlain Try.prog 230 := ⟨by kernel_rfl⟩
instance : TSize Try.prog 230 1 := ⟨by kernel_rfl⟩
instance : TPlain Try.prog 231 := ⟨by kernel_rfl⟩
instance : TSize Try.prog 231 1 := ⟨by kernel_rfl⟩
instance : TPlain Try.prog 232 := ⟨by kernel_rfl⟩
instance : TSize Try.prog 232 1 := ⟨by kernel_rfl⟩
instance : TPlain Try.prog 233 := ⟨by kernel_rfl⟩
instance : TSize Try.prog 233 1 := ⟨by kernel_rfl⟩
instance : TPlain Try.prog 234 := ⟨by kernel_rfl⟩
instance : TSize Try.prog 234 1 := ⟨by kernel_rfl⟩
instance : TPlain Try.prog 235 := ⟨by kernel_rfl⟩
instance : TSize Try.prog 235 1 := ⟨by kernel_rfl⟩
instance : TPlain Try.prog 237 := ⟨by kernel_rfl⟩
instance : TSize Try.prog 237 1 := ⟨by kernel_rfl⟩
instance : TPlain Try.prog 238 := ⟨by kernel_rfl⟩
instance : TSize Try.prog 238 1 := ⟨by kernel_rfl⟩
instance : TPlain Try.prog 239 := ⟨by kernel_rfl⟩
instance : TSize Try.prog 239 1 := ⟨by kernel_rfl⟩
instance : TPlain Try.prog 240 := ⟨by kernel_rfl⟩
instance : TSize Try.prog 240 1 := ⟨by kernel_rfl⟩
instance : TPlain Try.prog 241 := ⟨by kernel_rfl⟩
instance : TSize Try.prog 241 1 := ⟨by kernel_rfl⟩
instance : TPlain Try.prog 242 := ⟨by kernel_rfl⟩
instance : TSize Try.prog 242 1 := ⟨by kernel_rfl⟩
instance : TPlain Try.prog 243 := ⟨by kernel_rfl⟩
instance : TSize Try.prog 243 1 := ⟨by kernel_rfl⟩
instance : TPlain Try.prog 244 := ⟨by kernel_rfl⟩
instance : TSize Try.prog 244 1 := ⟨by kernel_rfl⟩
instance : TPlain Try.prog 245 := ⟨by kernel_rfl⟩
instance : TSize Try.prog 245 1 := ⟨by kernel_rfl⟩
instance : TPlain Try.prog 246 := ⟨by kernel_rfl⟩
instance : TSize Try.prog 246 1 := ⟨by kernel_rfl⟩
instance : TPlain Try.prog 247 := ⟨by kernel_rfl⟩
instance : TSize Try.prog 247 1 := ⟨by kernel_rfl⟩
instance : TPlain Try.prog 248 := ⟨by kernel_rfl⟩
instance : TSize Try.prog 248 1 := ⟨by kernel_rfl⟩
instance : TPlain Try.prog 249 := ⟨by kernel_rfl⟩
instance : TSize Try.prog 249 1 := ⟨by kernel_rfl⟩
instance : TPlain Try.prog 250 := ⟨by kernel_rfl⟩
instance : TSize Try.prog 250 1 := ⟨by kernel_rfl⟩
instance : TZero Try.prog 250 ([.pointer none]) := ⟨by kernel_rfl⟩
instance : TElem Try.prog 250 1 8 ([.pointer none]) := ⟨by kernel_rfl, by kernel_rfl⟩
instance : TPtr Try.prog 250 := ⟨by kernel_rfl⟩
instance : TPlain Try.prog 251 := ⟨by kernel_rfl⟩
instance : TSize Try.prog 251 1 := ⟨by kernel_rfl⟩
instance : TZero Try.prog 251 ([.pointer none]) := ⟨by kernel_rfl⟩
instance : TElem Try.prog 251 1 8 ([.pointer none]) := ⟨by kernel_rfl, by kernel_rfl⟩
instance : TPtr Try.prog 251 := ⟨by kernel_rfl⟩
instance : TPlain Try.prog 252 := ⟨by kernel_rfl⟩
instance : TSize Try.prog 252 1 := ⟨by kernel_rfl⟩
instance : TPlain Try.prog 253 := ⟨by kernel_rfl⟩
instance : TSize Try.prog 253 1 := ⟨by kernel_rfl⟩
instance : TPlain Try.prog 254 := ⟨by kernel_rfl⟩
instance : TSize Try.prog 254 1 := ⟨by kernel_rfl⟩
instance : TAgg Try.prog 255 4 := ⟨by kernel_rfl, by kernel_rfl⟩
instance : TSize Try.prog 255 4 := ⟨by kernel_rfl⟩
instance : TZero Try.prog 255 ([.pointer none, .pointer none, .pointer none, .string ⟨#[]⟩]) := ⟨by kernel_rfl⟩
instance : TElem Try.prog 255 4 40 ([.pointer none, .pointer none, .pointer none, .string ⟨#[]⟩]) := ⟨by kernel_rfl, by kernel_rfl⟩
instance : TPlaces Try.prog 255 [(0, 1), (1, 1), (2, 1), (3, 1)] := ⟨by kernel_rfl⟩
instance : TField Try.prog 255 0 0 := ⟨_, _, Try.underlying255, rfl, rfl, by kernel_rfl⟩
instance : TField Try.prog 255 1 1 := ⟨_, _, Try.underlying255, rfl, rfl, by kernel_rfl⟩
instance : TField Try.prog 255 2 2 := ⟨_, _, Try.underlying255, rfl, rfl, by kernel_rfl⟩
instance : TField Try.prog 255 3 3 := ⟨_, _, Try.underlying255, rfl, rfl, by kernel_rfl⟩
instance : TAgg Try.prog 257 0 := ⟨by kernel_rfl, by kernel_rfl⟩
instance : TSize Try.prog 257 0 := ⟨by kernel_rfl⟩
instance : TZero Try.prog 257 ([]) := ⟨by kernel_rfl⟩
instance : TArr Try.prog 257 0 16 1 := ⟨Try.underlying257, by kernel_rfl⟩
instance : TAgg Try.prog 258 0 := ⟨by kernel_rfl, by kernel_rfl⟩
instance : TSize Try.prog 258 0 := ⟨by kernel_rfl⟩
instance : TZero Try.prog 258 ([]) := ⟨by kernel_rfl⟩
instance : TPlaces Try.prog 258 [(0, 0)] := ⟨by kernel_rfl⟩
instance : TPlain Try.prog 262 := ⟨by kernel_rfl⟩
instance : TSize Try.prog 262 1 := ⟨by kernel_rfl⟩
instance : TPlain Try.prog 263 := ⟨by kernel_rfl⟩
instance : TSize Try.prog 263 1 := ⟨by kernel_rfl⟩
instance : TZero Try.prog 263 ([.pointer none]) := ⟨by kernel_rfl⟩
instance : TElem Try.prog 263 1 8 ([.pointer none]) := ⟨by kernel_rfl, by kernel_rfl⟩
instance : TPtr Try.prog 263 := ⟨by kernel_rfl⟩
instance : TAgg Try.prog 266 11 := ⟨by kernel_rfl, by kernel_rfl⟩
instance : TSize Try.prog 266 11 := ⟨by kernel_rfl⟩
instance : TZero Try.prog 266 ([.int .u64 0, .int .u64 0, .int .u32 0, .int .u8 0, .int .u8 0, .int .u8 0, .int .u8 0, .nilFunc, .pointer none, .int .i32 0, .int .i32 0]) := ⟨by kernel_rfl⟩
instance : TElem Try.prog 266 11 48 ([.int .u64 0, .int .u64 0, .int .u32 0, .int .u8 0, .int .u8 0, .int .u8 0, .int .u8 0, .nilFunc, .pointer none, .int .i32 0, .int .i32 0]) := ⟨by kernel_rfl, by kernel_rfl⟩
instance : TPlaces Try.prog 266 [(0, 1), (1, 1), (2, 1), (3, 1), (4, 1), (5, 1), (6, 1), (7, 1), (8, 1), (9, 1), (10, 1)] := ⟨by kernel_rfl⟩
instance : TField Try.prog 266 0 0 := ⟨_, _, Try.underlying266, rfl, rfl, by kernel_rfl⟩
instance : TField Try.prog 266 1 1 := ⟨_, _, Try.underlying266, rfl, rfl, by kernel_rfl⟩
instance : TField Try.prog 266 2 2 := ⟨_, _, Try.underlying266, rfl, rfl, by kernel_rfl⟩
instance : TField Try.prog 266 3 3 := ⟨_, _, Try.underlying266, rfl, rfl, by kernel_rfl⟩
instance : TField Try.prog 266 4 4 := ⟨_, _, Try.underlying266, rfl, rfl, by kernel_rfl⟩
instance : TField Try.prog 266 5 5 := ⟨_, _, Try.underlying266, rfl, rfl, by kernel_rfl⟩
instance : TField Try.prog 266 6 6 := ⟨_, _, Try.underlying266, rfl, rfl, by kernel_rfl⟩
instance : TField Try.prog 266 7 7 := ⟨_, _, Try.underlying266, rfl, rfl, by kernel_rfl⟩
instance : TField Try.prog 266 8 8 := ⟨_, _, Try.underlying266, rfl, rfl, by kernel_rfl⟩
instance : TField Try.prog 266 9 9 := ⟨_, _, Try.underlying266, rfl, rfl, by kernel_rfl⟩
instance : TField Try.prog 266 10 10 := ⟨_, _, Try.underlying266, rfl, rfl, by kernel_rfl⟩
instance : TPlain Try.prog 268 := ⟨by kernel_rfl⟩
instance : TSize Try.prog 268 1 := ⟨by kernel_rfl⟩
instance : TFn Try.prog 3 := ⟨_, Try.func3, rfl, by kernel_rfl⟩
instance : TFn Try.prog 4 := ⟨_, Try.func4, rfl, by kernel_rfl⟩
instance : TFn Try.prog 5 := ⟨_, Try.func5, rfl, by kernel_rfl⟩
instance : TFn Try.prog 6 := ⟨_, Try.func6, rfl, by kernel_rfl⟩
instance : TFn Try.prog 7 := ⟨_, Try.func7, rfl, by kernel_rfl⟩
instance : TFn Try.prog 8 := ⟨_, Try.func8, rfl, by kernel_rfl⟩
instance : TFn Try.prog 9 := ⟨_, Try.func9, rfl, by kernel_rfl⟩
instance : TFn Try.prog 10 := ⟨_, Try.func10, rfl, by kernel_rfl⟩
instance : TFn Try.prog 11 := ⟨_, Try.func11, rfl, by kernel_rfl⟩
instance : TFn Try.prog 12 := ⟨_, Try.func12, rfl, by kernel_rfl⟩
instance : TFn Try.prog 13 := ⟨_, Try.func13, rfl, by kernel_rfl⟩
instance : TFn Try.prog 14 := ⟨_, Try.func14, rfl, by kernel_rfl⟩
instance : TFn Try.prog 15 := ⟨_, Try.func15, rfl, by kernel_rfl⟩
instance : TFn Try.prog 16 := ⟨_, Try.func16, rfl, by kernel_rfl⟩
instance : TFn Try.prog 17 := ⟨_, Try.func17, rfl, by kernel_rfl⟩
instance : TFn Try.prog 18 := ⟨_, Try.func18, rfl, by kernel_rfl⟩
instance : TFn Try.prog 19 := ⟨_, Try.func19, rfl, by kernel_rfl⟩
instance : TFn Try.prog 20 := ⟨_, Try.func20, rfl, by kernel_rfl⟩
instance : TFn Try.prog 21 := ⟨_, Try.func21, rfl, by kernel_rfl⟩
instance : TFn Try.prog 22 := ⟨_, Try.func22, rfl, by kernel_rfl⟩
instance : TFn Try.prog 23 := ⟨_, Try.func23, rfl, by kernel_rfl⟩
instance : TFn Try.prog 24 := ⟨_, Try.func24, rfl, by kernel_rfl⟩
instance : TFn Try.prog 25 := ⟨_, Try.func25, rfl, by kernel_rfl⟩
instance : TFn Try.prog 26 := ⟨_, Try.func26, rfl, by kernel_rfl⟩
instance : TFn Try.prog 27 := ⟨_, Try.func27, rfl, by kernel_rfl⟩
instance : TFn Try.prog 28 := ⟨_, Try.func28, rfl, by kernel_rfl⟩
instance : TFn Try.prog 29 := ⟨_, Try.func29, rfl, by kernel_rfl⟩
instance : TFn Try.prog 30 := ⟨_, Try.func30, rfl, by kernel_rfl⟩
instance : TFn Try.prog 31 := ⟨_, Try.func31, rfl, by kernel_rfl⟩
instance : TFn Try.prog 32 := ⟨_, Try.func32, rfl, by kernel_rfl⟩
instance : TFn Try.prog 33 := ⟨_, Try.func33, rfl, by kernel_rfl⟩
instance : TFn Try.prog 34 := ⟨_, Try.func34, rfl, by kernel_rfl⟩
instance : TFn Try.prog 35 := ⟨_, Try.func35, rfl, by kernel_rfl⟩
instance : TFn Try.prog 36 := ⟨_, Try.func36, rfl, by kernel_rfl⟩
instance : TFn Try.prog 37 := ⟨_, Try.func37, rfl, by kernel_rfl⟩
instance : TFn Try.prog 38 := ⟨_, Try.func38, rfl, by kernel_rfl⟩
instance : TFn Try.prog 39 := ⟨_, Try.func39, rfl, by kernel_rfl⟩
instance : TFn Try.prog 40 := ⟨_, Try.func40, rfl, by kernel_rfl⟩
instance : TFn Try.prog 41 := ⟨_, Try.func41, rfl, by kernel_rfl⟩
instance : TFn Try.prog 42 := ⟨_, Try.func42, rfl, by kernel_rfl⟩
instance : TFn Try.prog 43 := ⟨_, Try.func43, rfl, by kernel_rfl⟩
instance : TFn Try.prog 44 := ⟨_, Try.func44, rfl, by kernel_rfl⟩
instance : TFn Try.prog 45 := ⟨_, Try.func45, rfl, by kernel_rfl⟩
instance : TFn Try.prog 46 := ⟨_, Try.func46, rfl, by kernel_rfl⟩
instance : TFn Try.prog 47 := ⟨_, Try.func47, rfl, by kernel_rfl⟩
instance : TFn Try.prog 48 := ⟨_, Try.func48, rfl, by kernel_rfl⟩
instance : TFn Try.prog 49 := ⟨_, Try.func49, rfl, by kernel_rfl⟩
instance : TFn Try.prog 50 := ⟨_, Try.func50, rfl, by kernel_rfl⟩
instance : TFn Try.prog 51 := ⟨_, Try.func51, rfl, by kernel_rfl⟩
instance : TFn Try.prog 52 := ⟨_, Try.func52, rfl, by kernel_rfl⟩
instance : TFn Try.prog 53 := ⟨_, Try.func53, rfl, by kernel_rfl⟩
instance : TFn Try.prog 54 := ⟨_, Try.func54, rfl, by kernel_rfl⟩
instance : TFn Try.prog 55 := ⟨_, Try.func55, rfl, by kernel_rfl⟩
instance : TFn Try.prog 56 := ⟨_, Try.func56, rfl, by kernel_rfl⟩
instance : TFn Try.prog 57 := ⟨_, Try.func57, rfl, by kernel_rfl⟩
instance : TFn Try.prog 58 := ⟨_, Try.func58, rfl, by kernel_rfl⟩
instance : TFn Try.prog 59 := ⟨_, Try.func59, rfl, by kernel_rfl⟩
instance : TFn Try.prog 60 := ⟨_, Try.func60, rfl, by kernel_rfl⟩
instance : TFn Try.prog 61 := ⟨_, Try.func61, rfl, by kernel_rfl⟩
instance : TFn Try.prog 62 := ⟨_, Try.func62, rfl, by kernel_rfl⟩
instance : TFn Try.prog 63 := ⟨_, Try.func63, rfl, by kernel_rfl⟩
instance : TFn Try.prog 64 := ⟨_, Try.func64, rfl, by kernel_rfl⟩
instance : TFn Try.prog 65 := ⟨_, Try.func65, rfl, by kernel_rfl⟩
instance : TFn Try.prog 66 := ⟨_, Try.func66, rfl, by kernel_rfl⟩
instance : TFn Try.prog 67 := ⟨_, Try.func67, rfl, by kernel_rfl⟩
instance : TFn Try.prog 68 := ⟨_, Try.func68, rfl, by kernel_rfl⟩
instance : TFn Try.prog 69 := ⟨_, Try.func69, rfl, by kernel_rfl⟩
instance : TFn Try.prog 70 := ⟨_, Try.func70, rfl, by kernel_rfl⟩
instance : TFn Try.prog 71 := ⟨_, Try.func71, rfl, by kernel_rfl⟩
instance : TFn Try.prog 72 := ⟨_, Try.func72, rfl, by kernel_rfl⟩
instance : TFn Try.prog 73 := ⟨_, Try.func73, rfl, by kernel_rfl⟩
instance : TFn Try.prog 74 := ⟨_, Try.func74, rfl, by kernel_rfl⟩
instance : TFn Try.prog 75 := ⟨_, Try.func75, rfl, by kernel_rfl⟩
instance : TFn Try.prog 76 := ⟨_, Try.func76, rfl, by kernel_rfl⟩
instance : TFn Try.prog 77 := ⟨_, Try.func77, rfl, by kernel_rfl⟩
instance : TFn Try.prog 78 := ⟨_, Try.func78, rfl, by kernel_rfl⟩
instance : TFn Try.prog 79 := ⟨_, Try.func79, rfl, by kernel_rfl⟩
instance : TFn Try.prog 80 := ⟨_, Try.func80, rfl, by kernel_rfl⟩
instance : TFn Try.prog 81 := ⟨_, Try.func81, rfl, by kernel_rfl⟩
instance : TFn Try.prog 82 := ⟨_, Try.func82, rfl, by kernel_rfl⟩
instance : TFn Try.prog 83 := ⟨_, Try.func83, rfl, by kernel_rfl⟩
instance : TFn Try.prog 84 := ⟨_, Try.func84, rfl, by kernel_rfl⟩
instance : TFn Try.prog 85 := ⟨_, Try.func85, rfl, by kernel_rfl⟩
instance : TFn Try.prog 86 := ⟨_, Try.func86, rfl, by kernel_rfl⟩
instance : TFn Try.prog 87 := ⟨_, Try.func87, rfl, by kernel_rfl⟩
instance : TFn Try.prog 88 := ⟨_, Try.func88, rfl, by kernel_rfl⟩
instance : TFn Try.prog 89 := ⟨_, Try.func89, rfl, by kernel_rfl⟩
instance : TFn Try.prog 90 := ⟨_, Try.func90, rfl, by kernel_rfl⟩
instance : TFn Try.prog 91 := ⟨_, Try.func91, rfl, by kernel_rfl⟩
instance : TFn Try.prog 92 := ⟨_, Try.func92, rfl, by kernel_rfl⟩
instance : TFn Try.prog 93 := ⟨_, Try.func93, rfl, by kernel_rfl⟩
instance : TFn Try.prog 94 := ⟨_, Try.func94, rfl, by kernel_rfl⟩
instance : TFn Try.prog 95 := ⟨_, Try.func95, rfl, by kernel_rfl⟩
instance : TFn Try.prog 96 := ⟨_, Try.func96, rfl, by kernel_rfl⟩
instance : TFn Try.prog 97 := ⟨_, Try.func97, rfl, by kernel_rfl⟩
instance : TFn Try.prog 98 := ⟨_, Try.func98, rfl, by kernel_rfl⟩
instance : TFn Try.prog 99 := ⟨_, Try.func99, rfl, by kernel_rfl⟩
instance : TFn Try.prog 100 := ⟨_, Try.func100, rfl, by kernel_rfl⟩
instance : TFn Try.prog 101 := ⟨_, Try.func101, rfl, by kernel_rfl⟩
instance : TFn Try.prog 102 := ⟨_, Try.func102, rfl, by kernel_rfl⟩
instance : TFn Try.prog 103 := ⟨_, Try.func103, rfl, by kernel_rfl⟩
instance : TFn Try.prog 104 := ⟨_, Try.func104, rfl, by kernel_rfl⟩
instance : TFn Try.prog 105 := ⟨_, Try.func105, rfl, by kernel_rfl⟩
instance : TFn Try.prog 106 := ⟨_, Try.func106, rfl, by kernel_rfl⟩
instance : TFn Try.prog 107 := ⟨_, Try.func107, rfl, by kernel_rfl⟩
instance : TFn Try.prog 108 := ⟨_, Try.func108, rfl, by kernel_rfl⟩
instance : TFn Try.prog 109 := ⟨_, Try.func109, rfl, by kernel_rfl⟩
instance : TFn Try.prog 110 := ⟨_, Try.func110, rfl, by kernel_rfl⟩
instance : TFn Try.prog 111 := ⟨_, Try.func111, rfl, by kernel_rfl⟩
instance : TFn Try.prog 112 := ⟨_, Try.func112, rfl, by kernel_rfl⟩
instance : TFn Try.prog 113 := ⟨_, Try.func113, rfl, by kernel_rfl⟩
instance : TFn Try.prog 114 := ⟨_, Try.func114, rfl, by kernel_rfl⟩
instance : TFn Try.prog 115 := ⟨_, Try.func115, rfl, by kernel_rfl⟩
instance : TFn Try.prog 116 := ⟨_, Try.func116, rfl, by kernel_rfl⟩
instance : TFn Try.prog 117 := ⟨_, Try.func117, rfl, by kernel_rfl⟩
instance : TFn Try.prog 118 := ⟨_, Try.func118, rfl, by kernel_rfl⟩
instance : TFn Try.prog 119 := ⟨_, Try.func119, rfl, by kernel_rfl⟩
instance : TFn Try.prog 120 := ⟨_, Try.func120, rfl, by kernel_rfl⟩
instance : TFn Try.prog 121 := ⟨_, Try.func121, rfl, by kernel_rfl⟩
instance : TFn Try.prog 122 := ⟨_, Try.func122, rfl, by kernel_rfl⟩
instance : TFn Try.prog 123 := ⟨_, Try.func123, rfl, by kernel_rfl⟩
instance : TFn Try.prog 124 := ⟨_, Try.func124, rfl, by kernel_rfl⟩
instance : TFn Try.prog 125 := ⟨_, Try.func125, rfl, by kernel_rfl⟩
instance : TFn Try.prog 126 := ⟨_, Try.func126, rfl, by kernel_rfl⟩
instance : TFn Try.prog 127 := ⟨_, Try.func127, rfl, by kernel_rfl⟩
instance : TFn Try.prog 128 := ⟨_, Try.func128, rfl, by kernel_rfl⟩
instance : TFn Try.prog 129 := ⟨_, Try.func129, rfl, by kernel_rfl⟩
instance : TFn Try.prog 130 := ⟨_, Try.func130, rfl, by kernel_rfl⟩
instance : TFn Try.prog 131 := ⟨_, Try.func131, rfl, by kernel_rfl⟩
instance : TFn Try.prog 132 := ⟨_, Try.func132, rfl, by kernel_rfl⟩
instance : TFn Try.prog 134 := ⟨_, Try.func134, rfl, by kernel_rfl⟩
instance : TFn Try.prog 135 := ⟨_, Try.func135, rfl, by kernel_rfl⟩
instance : TFn Try.prog 136 := ⟨_, Try.func136, rfl, by kernel_rfl⟩
instance : TFn Try.prog 137 := ⟨_, Try.func137, rfl, by kernel_rfl⟩
instance : TFn Try.prog 138 := ⟨_, Try.func138, rfl, by kernel_rfl⟩
instance : TFn Try.prog 139 := ⟨_, Try.func139, rfl, by kernel_rfl⟩
instance : TFn Try.prog 140 := ⟨_, Try.func140, rfl, by kernel_rfl⟩
instance : TFn Try.prog 141 := ⟨_, Try.func141, rfl, by kernel_rfl⟩
instance : TFn Try.prog 142 := ⟨_, Try.func142, rfl, by kernel_rfl⟩
instance : TFn Try.prog 143 := ⟨_, Try.func143, rfl, by kernel_rfl⟩
instance : TFn Try.prog 144 := ⟨_, Try.func144, rfl, by kernel_rfl⟩
instance : TFn Try.prog 145 := ⟨_, Try.func145, rfl, by kernel_rfl⟩
instance : TFn Try.prog 146 := ⟨_, Try.func146, rfl, by kernel_rfl⟩
instance : TFn Try.prog 148 := ⟨_, Try.func148, rfl, by kernel_rfl⟩
instance : TFn Try.prog 149 := ⟨_, Try.func149, rfl, by kernel_rfl⟩
instance : TFn Try.prog 150 := ⟨_, Try.func150, rfl, by kernel_rfl⟩
instance : TFn Try.prog 152 := ⟨_, Try.func152, rfl, by kernel_rfl⟩
instance : TFn Try.prog 153 := ⟨_, Try.func153, rfl, by kernel_rfl⟩
instance : TFn Try.prog 154 := ⟨_, Try.func154, rfl, by kernel_rfl⟩
instance : TFn Try.prog 155 := ⟨_, Try.func155, rfl, by kernel_rfl⟩
instance : TFn Try.prog 156 := ⟨_, Try.func156, rfl, by kernel_rfl⟩
instance : TFn Try.prog 157 := ⟨_, Try.func157, rfl, by kernel_rfl⟩
instance : TFn Try.prog 158 := ⟨_, Try.func158, rfl, by kernel_rfl⟩
instance : TFn Try.prog 159 := ⟨_, Try.func159, rfl, by kernel_rfl⟩
end Go.Proofs.Ytckdlfbbkemklaa
end
section
/- What is asked of this program as a whole. -/
namespace Go.Proofs.Ytckdlfbbkemklaa
open Go Go.Gv
instance : TMixed Try.prog := ⟨by kernel_rfl⟩
end Go.Proofs.Ytckdlfbbkemklaa
end
section
/- slices.Chunk of bytes, and the iterator that it hands back. -/
namespace Go.Proofs.Ytckdlfbbkemklaa
open Go Go.RowKit Go.Gv
set_option linter.unusedVariables false
set_option linter.unusedSimpArgs false

theorem slices_Chunk (A : Option Addr) (m c : Nat) : SpecR Try.prog 120 #[.slice A m c, .int .i64 64] (fun _ => True) (fun r H' => ∃ b2 b3 : Nat, r = .func (.func 138) #[] [.pointer (some ⟨b2, 0, none⟩), .pointer (some ⟨b3, 0, none⟩)].toArray ∧ H' = [blk b2 43 [.slice A m c], blk b3 3 [.int .i64 64]]) := by
  refine SpecR.of (fun w _ => ?_)
  refine Calls.enter Try.func120 rfl rfl rfl (St.rebase w) ?_
  simp only [argSlots]
  (refine Tri.seq (Tri.region ?_); apply Tri.op; rfl)
  (first | (apply o_boxA; (case hx => rfl); (case hn => rfl); intro b2) | (apply o_box1; (case hx => rfl); (case h1 => rfl); (case hn => rfl); intro b2))
  (apply Tri.op; rfl)
  (first | (apply o_boxA; (case hx => rfl); (case hn => rfl); intro b3) | (apply o_box1; (case hx => rfl); (case h1 => rfl); (case hn => rfl); intro b3))
  (apply Tri.op; rfl; apply o_assign; rfl; rfl; refine Tri.nil (Tri.thenN (Tri.seq (Tri.seq (Tri.region ?_)))); apply Tri.op; rfl; apply o_load; rfl; (with_reducible repeat constructor); rfl; rfl; apply Tri.op; rfl; apply o_lss; rfl; rfl; rfl; refine Tri.nil (Tri.thenN ?_))
  ((with_reducible apply Tri.setb 6 (false)); (case h => rfl); (case hi => rfl))
  (apply Tri.condF; rfl; rfl; refine Tri.skip (Tri.thenN (Tri.seq (Tri.region ?_))); apply Tri.op; rfl)
  (apply o_makeFunc (vs := [.pointer (some ⟨b2, 0, none⟩), .pointer (some ⟨b3, 0, none⟩)]); (case hc => exact ⟨rfl, rfl, trivial⟩); (case hn => rfl))
  (apply Tri.op; rfl; apply o_assign; rfl; rfl; refine Tri.nil (Tri.thenN (Tri.ret ?_)))
  (apply Tri.fin; (case hr => rfl); (case h => (repeat (first | exact ResL.nil | (apply ResL.cons; (case a => (first | exact Res1.tmp rfl | (apply Res1.cell; rfl; (with_reducible repeat constructor); rfl) | (apply Res1.agg; rfl; (with_reducible repeat constructor); rfl; rfl))))))); (apply fin_R (Hn := [blk b2 43 [.slice A m c], blk b3 3 [.int .i64 64]])); (case p => (repeat first | with_reducible constructor | constructor)))
  exact ⟨b2, b3, rfl, rfl⟩

def chunks (A : Option Addr) (m : Nat) : List (List Value) := (List.range (m / 64)).map fun k => [.slice (A.map (·.add (k * 64))) 64 64]
theorem chunks_get {A : Option Addr} {m k : Nat} (h : k * 64 + 64 ≤ m) : (chunks A m)[k]? = some [.slice (A.map (·.add (k * 64))) 64 64] := by
  unfold chunks
  rw [List.getElem?_map, List.getElem?_range (by omega)]; rfl
theorem chunks_of {A : Option Addr} {m k : Nat} {vs : List Value} (hm : m % 64 = 0) (h : (chunks A m)[k]? = some vs) : k * 64 + 64 ≤ m ∧ vs = [.slice (A.map (·.add (k * 64))) 64 64] := by
  have hk : k < m / 64 := by
    have := (List.getElem?_eq_some_iff.1 h).1
    simpa [chunks] using this
  have h2 : k * 64 + 64 ≤ m := by omega
  rw [chunks_get h2] at h
  exact ⟨h2, (Option.some.inj h).symm⟩
set_option maxHeartbeats 4000000 in
theorem chunk_iter (A : Option Addr) (m c b2 b3 : Nat) (hm : m % 64 = 0) (hc : m ≤ c ∧ m ≤ 1000000000) : Iter Try.prog 138 [.pointer (some ⟨b2, 0, none⟩), .pointer (some ⟨b3, 0, none⟩)] [blk b2 43 [.slice A m c], blk b3 3 [.int .i64 64]] (chunks A m) := by
  refine Iter.of (fun w0 l I J hY w h0 hw => ?_)
  have hxl : (chunks A m).length = m / 64 := by simp [chunks]
  rw [hxl]
  refine Calls.enter Try.func138 rfl rfl rfl hw ?_
  simp only [argSlots]
  refine Tri.wr ?_
  (try dsimp only [List.cons_append, List.nil_append])
  (refine TriR.seq (TriR.region ?_); apply TriR.op; rfl; rfl; apply o_assign; rfl; rfl; refine TriR.nil (Tri.thenN (TriR.block ?_)))
  (apply TriR.loop (α := { k : Nat // k ≤ m / 64 }) (m := fun x => m / 64 - x.1) (Lx := fun x => [(0, .func (.yield l) #[] #[]), (1, .pointer (some ⟨b2, 0, none⟩)), (2, .pointer (some ⟨b3, 0, none⟩)), (4, .int .i64 ((x.1 * 64 : Nat) : Int))]) (Hx := fun x => [I x.1, blk b2 43 [.slice A m c], blk b3 3 [.int .i64 64], Ex h0]) (x0 := ⟨0, Nat.zero_le _⟩); (case hL => ((try dsimp only); (repeat (first | exact trivial | refine And.intro (by rfl) ?_)))); (case hH => ((try dsimp only); apply St.all; (repeat first | with_reducible constructor | constructor)))); (rintro ⟨k, hk⟩ mx hmx; (try dsimp only at hmx ⊢))
  (refine TriR.seq (TriR.seq (TriR.region ?_)); apply TriR.op; rfl; rfl; apply o_move; rfl; rfl; apply TriR.op; rfl; rfl; apply o_load; rfl; (with_reducible repeat constructor); rfl; rfl; apply TriR.op; rfl; rfl; apply o_len; rfl; rfl; apply TriR.op; rfl; rfl; apply o_lss; rfl; rfl; rfl; refine TriR.nil (Tri.thenN ?_))
  (apply TriR.condD; (case hc => rfl); (all_goals intro h))
  · have hk' : k * 64 + 64 ≤ m := by omega
    (refine TriR.skip (Tri.thenN (TriR.seq (TriR.block (TriR.seq ?_)))))
    ((first | with_reducible apply Tri.mix [blk b2 43 [.slice A m c], blk b3 3 [.int .i64 64]] | (apply TriR.mix [blk b2 43 [.slice A m c], blk b3 3 [.int .i64 64]]; (case hnd => rfl))); (case p => (repeat first | with_reducible constructor | constructor)); (dsimp only [List.length]))
    ((first | (apply TriM.q 0; rfl; rfl) | (apply TriM.qYes 0; rfl; rfl; rfl; with_reducible rfl)); kernel_rfl; rfl; rfl; (intro F K hK; (try dsimp only [List.cons_append, List.nil_append]); apply o_load; rfl; (with_reducible repeat constructor); rfl; rfl; exact hK); (first | (apply TriM.q 1; rfl; rfl) | (apply TriM.qYes 1; rfl; rfl; rfl; with_reducible rfl)); kernel_rfl; rfl; rfl; (intro F K hK; (try dsimp only [List.cons_append, List.nil_append]); apply o_load; rfl; (with_reducible repeat constructor); rfl; rfl; exact hK); (first | (apply TriM.q 2; rfl; rfl) | (apply TriM.qYes 2; rfl; rfl; rfl; with_reducible rfl)); kernel_rfl; rfl; rfl; (intro F K hK; apply o_move; rfl; rfl; exact hK))
    ((first | (apply TriM.q 3; (case ho => rfl); (case hg => rfl)) | (apply TriM.qYes 3; (case ho => rfl); (case hg => rfl); (case hyl => rfl); (case hb => with_reducible rfl))); (case hB => kernel_rfl); (case hd => rfl); (case hn => rfl); (case h => (intro F K hK; (try dsimp only [List.cons_append, List.nil_append]); (apply o_sliceH (lo := k * 64) (hi := m); (case hx => rfl); (case hol => first | exact fun _ _ => rfl | exact fun a ha => congrArg some (ha.eval rfl)); (case hoh => first | exact fun _ _ => rfl | exact fun a ha => congrArg some (ha.eval rfl)); (case hlo => first | exact .inr ⟨rfl, rfl⟩ | exact .inl ⟨_, rfl⟩ | exact .inl ⟨_, (by congr 2; omega)⟩); (case hhi => first | exact .inr ⟨rfl, rfl⟩ | exact .inl ⟨_, rfl⟩ | exact .inl ⟨_, (by congr 2; omega)⟩); (case hlh => omega); (case hhm => omega); (case hn => rfl)); exact hK)))
    ((first | (apply TriM.q 4; rfl; rfl) | (apply TriM.qYes 4; rfl; rfl; rfl; with_reducible rfl)); kernel_rfl; rfl; rfl; (intro F K hK; apply o_len; rfl; rfl; exact hK); (first | (apply TriM.q 5; rfl; rfl) | (apply TriM.qYes 5; rfl; rfl; rfl; with_reducible rfl)); kernel_rfl; rfl; rfl; (intro F K hK; apply o_min; rfl; rfl; rfl; exact hK); (first | (apply TriM.q 6; rfl; rfl) | (apply TriM.qYes 6; rfl; rfl; rfl; with_reducible rfl)); kernel_rfl; rfl; rfl; (intro F K hK; apply o_assign; rfl; rfl; exact hK))
    (apply TriM.nil; (case hr => kernel_rfl); (try dsimp only [List.cons_append, List.nil_append]))
    ((with_reducible apply Tri.seti 5 (64)); (case h => rfl); (case hi => omega))
    (refine Tri.thenN (TriR.seq (TriR.region ?_)); apply TriR.op; rfl; rfl; apply o_move; rfl; rfl; apply TriR.op; rfl; rfl; apply o_load; rfl; (with_reducible repeat constructor); rfl; rfl; apply TriR.op; rfl; rfl; apply o_move; rfl; rfl; apply TriR.op; rfl; rfl; apply o_move; rfl; rfl; apply TriR.op; rfl; rfl; apply o_move; rfl; rfl; apply TriR.op; rfl; rfl; apply o_add64; rfl; rfl; rfl; (omega); apply TriR.op; rfl; rfl; apply o_move; rfl; rfl; apply TriR.op; rfl; rfl; apply o_move; rfl; rfl; apply TriR.op; rfl; rfl; apply o_add64; rfl; rfl; rfl; (omega); apply TriR.op; rfl; rfl)
    ((with_reducible apply Tri.seti 24 (((k * 64 + 64 : Nat) : Int))); (case h => rfl); (case hi => omega))
    ((with_reducible apply Tri.seti 27 (((k * 64 + 64 : Nat) : Int))); (case h => rfl); (case hi => omega))
    (apply o_slice3 (lo := k * 64) (hi := k * 64 + 64) (mx := k * 64 + 64); (case hx => rfl); (case hol => first | exact fun _ _ => rfl | exact fun a ha => congrArg some (ha.eval rfl)); (case hlo => first | exact .inr ⟨rfl, rfl⟩ | exact .inl ⟨_, rfl⟩ | exact .inl ⟨_, (by congr 2; omega)⟩); (case hy => rfl); (case hz => rfl); (case hlh => omega); (case hhm => omega); (case hmc => omega); (case hn => rfl))
    ((with_reducible apply Tri.setv 28 ((.slice (A.map (·.add (k * 64))) 64 64))); (case h => rfl); (case hv => (rw [if_neg (by omega), show k * 64 + 64 - k * 64 = 64 by omega, Nat.mul_one])))
    skip
    (apply TriR.yield (hy := hY k _ (chunks_get hk')); (case hx => rfl); (case hargs => (repeat first | exact evs.nil | (apply evs.cons; case a => rfl))); (case hn => rfl); (case p => (with_reducible repeat constructor)))
    · (apply TriR.op; rfl; rfl; apply o_not; rfl; rfl; refine TriR.nil (Tri.thenN ?_))
      ((with_reducible apply Tri.setb 30 (false)); (case h => rfl); (case hi => rfl))
      (apply TriR.condF; rfl; rfl; refine TriR.skip (Tri.blockN (Tri.thenN (TriR.region ?_))); apply TriR.op; rfl; rfl; apply o_move; rfl; rfl; apply TriR.op; rfl; rfl; apply o_load; rfl; (with_reducible repeat constructor); rfl; rfl; apply TriR.op; rfl; rfl; apply o_add64; rfl; rfl; rfl; (omega); apply TriR.op; rfl; rfl; apply o_assign; rfl; rfl; refine TriR.nil (Tri.thenN ?_))
      ((with_reducible apply Tri.seti 4 ((((k + 1) * 64 : Nat) : Int))); (case h => rfl); (case hi => omega))
      (apply Tri.again (y := ⟨k + 1, by omega⟩); (case p => ((try dsimp only); (repeat (first | exact Pulls.nil | (apply Pulls.cons; (case a => (first | ((repeat (first | with_reducible exact Gv.Pull.head | with_reducible apply Gv.Pull.tail)); done) | (repeat (first | exact Gv.Pull.head | apply Gv.Pull.tail))))))))); (case hm => ((try dsimp only); omega)); (try dsimp only))
      (repeat (first | exact trivial | refine And.intro (by rfl) ?_))
    · (apply TriR.op; rfl; rfl; apply o_not; rfl; rfl; refine TriR.nil (Tri.thenN ?_))
      ((with_reducible apply Tri.setb 30 (true)); (case h => rfl); (case hi => rfl))
      (apply TriR.condT; rfl; rfl; refine TriR.ret (Tri.blockR (Tri.thenR (Tri.thenR (Tri.blockR ?_)))))
      apply Tri.fin
      case hr => rfl
      case h => exact ResL.nil
      exact fun w' hw' => .inr ⟨(hw'.pulls (As := [J, blk b2 43 [.slice A m c], blk b3 3 [.int .i64 64], Ex h0]) (by (repeat first | with_reducible constructor | constructor))).1, Sat.left (hw'.pulls (by (repeat first | with_reducible constructor | constructor))).2⟩
  · obtain rfl : k = m / 64 := by omega
    ((with_reducible refine TriR.exit (Tri.thenE (Tri.thenE (Tri.blockE ?_)))))
    apply Tri.fin
    case hr => rfl
    case h => exact ResL.nil
    exact fun w' hw' => .inl ⟨(hw'.pulls (As := [I (m / 64), blk b2 43 [.slice A m c], blk b3 3 [.int .i64 64], Ex h0]) (by (repeat first | with_reducible constructor | constructor))).1, Sat.left (hw'.pulls (by (repeat first | with_reducible constructor | constructor))).2⟩
end Go.Proofs.Ytckdlfbbkemklaa
end
section
/- The sum as plain functions. -/
namespace Go.Gv
def crcBit (n : UInt32) : UInt32 := (n >>> 1) ^^^ (0x82F63B78 &&& (0 - (n &&& 1)))
def crcBits : Nat → UInt32 → UInt32
  | 0, n => n
  | k + 1, n => crcBits k (crcBit n)
def crcTab (i : Nat) : UInt32 := crcBits 8 (UInt32.ofNat i)
def crcByte (n : UInt32) (c : UInt8) : UInt32 := (n >>> 8) ^^^ crcTab (n.toUInt8 ^^^ c).toNat
def crcFold (n : UInt32) (l : List UInt8) : UInt32 := l.foldl crcByte n
def crcBehind (sum : UInt32) (l : List UInt8) : UInt32 := ~~~ (crcFold (~~~ sum) l)
def crcSum (l : List UInt8) : UInt32 := crcBehind 0 l
theorem crcBits_succ (k : Nat) (n : UInt32) : crcBits (k + 1) n = crcBit (crcBits k n) := by
  induction k generalizing n with
  | zero => rfl
  | succ k ih => exact ih (crcBit n)
end Go.Gv
end
section
/- crc: what its functions answer. -/
namespace Go.Proofs.Ytckdlfbbkemklaa
open Go Go.RowKit Go.Gv
set_option linter.unusedVariables false

/-- bytes as cells -/
def B8 (l : List UInt8) : List Value := l.map fun c => .int .u8 (c.toNat : Int)
theorem B8_length (l : List UInt8) : (B8 l).length = l.length := by simp [B8]
theorem B8_sub (l : List UInt8) (lo hi : Nat) : ((B8 l).drop (lo * 1)).take ((hi - lo) * 1) = B8 ((l.drop lo).take (hi - lo)) := by simp [B8, List.map_take, List.map_drop]
theorem B8_append (a b : List UInt8) : B8 (a ++ b) = B8 a ++ B8 b := by simp [B8]
theorem B8_get (l : List UInt8) (j : Nat) (h : j < l.length) : (B8 l)[j]? = some (.int .u8 (l[j].toNat : Int)) := by simp [B8, h]
def tabL : List Value := (List.range 256).map fun i => .int .u32 ((crcTab i).toNat : Int)
theorem tabL_get (j : Nat) (h : j < 256) : tabL[j]? = some (.int .u32 ((crcTab j).toNat : Int)) := by simp [tabL, h]
def tabV : Value := .agg tabL.toArray
theorem foldl_take {α β : Type} (f : β → α → β) (b : β) (l : List α) (k : Nat) (h : k < l.length) : (l.take (k + 1)).foldl f b = f ((l.take k).foldl f b) l[k] := by
  rw [List.take_succ_eq_append_getElem h, List.foldl_append]; rfl

set_option maxHeartbeats 400000 in
theorem crc_Behind (sum : UInt32) (v : Value) (l : List UInt8) :
    SpecR Try.prog 137 #[tabV, .int .u32 (sum.toNat : Int), v] (fun w => RdW w v l.length (B8 l)) (fun r H' => r = .int .u32 ((crcBehind sum l).toNat : Int) ∧ H' = []) := by
  refine SpecR.of (fun w hr => ?_)
  have hlen := hr.le
  refine Calls.enter Try.func137 rfl rfl rfl (St.rebase w) ?_
  simp only [argSlots]
  (refine Tri.seq (Tri.region ?_); apply Tri.op; rfl)
  (first | (apply o_boxA; (case hx => rfl); (case hn => rfl); intro bt) | (apply o_box1; (case hx => rfl); (case h1 => rfl); (case hn => rfl); intro bt))
  (apply Tri.op; rfl; apply o_assign; rfl; rfl; refine Tri.nil (Tri.thenN (Tri.seq (Tri.region ?_))); apply Tri.op; rfl; apply o_move; rfl; rfl; apply Tri.op; rfl; apply o_com; rfl; rfl; apply Tri.op; rfl; apply o_assign; rfl; rfl; refine Tri.nil (Tri.thenN (Tri.seq (Tri.seq (Tri.region ?_)))); apply Tri.op; rfl; apply o_move; rfl; rfl; apply Tri.op; rfl)
  ((with_reducible apply Tri.seti 7 (((~~~ sum).toNat : Int))); (case h => rfl); (case hi => exact com32 sum))
  refine o_lenRd rfl hr rfl ?_
  (apply Tri.op; rfl; apply o_move; rfl; rfl; refine Tri.nil (Tri.thenN (Tri.block ?_)))
  (apply Tri.loop (α := { k : Nat // k ≤ l.length }) (m := fun x => l.length - x.1) (Lx := fun x => [(3, .pointer (some ⟨bt, 0, none⟩)), (7, .int .u32 ((crcFold (~~~ sum) (l.take x.1)).toNat : Int)), (12, v), (13, .int .i64 (l.length : Int)), (14, .int .i64 (x.1 : Int))]) (Hx := fun x => [blk bt 63 tabL, Ex (hp w)]) (x0 := ⟨0, Nat.zero_le _⟩); (case hL => ((try dsimp only); (repeat (first | exact trivial | refine And.intro (by rfl) ?_)))); (case hH => ((try dsimp only); apply St.all; (repeat first | with_reducible constructor | constructor)))); (rintro ⟨k, hk⟩ mx hmx; (try dsimp only at hmx ⊢))
  (refine Tri.seq (Tri.region ?_); apply Tri.op; rfl; apply o_lss; rfl; rfl; rfl; refine Tri.nil (Tri.thenN (Tri.seq ?_)))
  (apply Tri.condD; (case hc => rfl); (all_goals intro h))
  · have hk' : k < l.length := by omega
    (refine Tri.skip (Tri.thenN (Tri.seq (Tri.block (Tri.seq (Tri.region ?_))))); apply Tri.op; rfl)
    (apply o_ixRd (hr := hr); (case hx => rfl); (case hy => rfl); (case hj => first | rfl | exact (Int.toNat_of_nonneg (by omega)).symm); (case hlt => first | omega | assumption); (case hl => (rw [B8_length]; omega)); (case hn => rfl))
    (apply Tri.op; rfl)
    (apply o_loadRd (hr := hr); (case hx => rfl); (case p => (with_reducible repeat constructor)); (case hv => exact (by rw [Nat.mul_one]; exact B8_get l k hk')); (case hn => rfl))
    (apply Tri.op; rfl; apply o_assign; rfl; rfl; refine Tri.nil (Tri.thenN (Tri.region ?_)); apply Tri.op; rfl; apply o_move; rfl; rfl; apply Tri.op; rfl; apply o_shr; rfl; rfl; rfl; (omega); apply Tri.op; rfl; apply o_move; rfl; rfl; apply Tri.op; rfl; apply o_conv8; rfl; rfl; apply Tri.op; rfl; apply o_move; rfl; rfl; apply Tri.op; rfl; apply o_xor; rfl; rfl; rfl; apply Tri.op; rfl)
    ((with_reducible apply Tri.seti 23 ((((crcFold (~~~sum) (l.take k)).toUInt8 ^^^ l[k]).toNat : Int))); (case h => rfl); (case hi => rw [← wrapu8, low8, xor8]))
    (apply o_ixArr; (case hx => rfl); (case hy => rfl); (case hj => first | rfl | exact (Int.toNat_of_nonneg (by omega)).symm); (case hlt => exact UInt8.toNat_lt _); (case hn => rfl))
    (apply Tri.op; (case hg => rfl))
    (apply o_load; (case hx => rfl); (case p => (with_reducible repeat constructor)); (case hv => exact (by rw [Nat.zero_add, Nat.mul_one]; exact tabL_get _ (UInt8.toNat_lt _))); (case hn => rfl))
    (apply Tri.op; rfl; apply o_xor; rfl; rfl; rfl; apply Tri.op; rfl; apply o_assign; rfl; rfl; refine Tri.nil (Tri.blockN (Tri.thenN (Tri.region ?_))); apply Tri.op; rfl; apply o_add64; rfl; rfl; rfl; (omega); apply Tri.op; rfl; apply o_move; rfl; rfl; refine Tri.nil (Tri.thenN ?_))
    ((with_reducible apply Tri.seti 7 (((crcFold (~~~sum) (l.take (k + 1))).toNat : Int))); (case h => rfl); (case hi => (unfold crcFold; rw [foldl_take _ _ _ _ hk', crcByte, shr32 _ 8 (by omega) 8 rfl, xor32]; rfl)))
    (apply Tri.again (y := ⟨k + 1, Nat.succ_le_of_lt hk'⟩); (case p => ((try dsimp only); (repeat (first | exact Pulls.nil | (apply Pulls.cons; (case a => (first | ((repeat (first | with_reducible exact Gv.Pull.head | with_reducible apply Gv.Pull.tail)); done) | (repeat (first | exact Gv.Pull.head | apply Gv.Pull.tail))))))))); (case hm => ((try dsimp only); omega)); (try dsimp only))
    (repeat (first | exact trivial | refine And.intro (by rfl) ?_))
  · ((with_reducible refine Tri.exit (Tri.thenE (Tri.thenE (Tri.blockE (Tri.thenN (Tri.seq (Tri.region ?_))))))); apply Tri.op; rfl; apply o_move; rfl; rfl; apply Tri.op; rfl; apply o_com; rfl; rfl; apply Tri.op; rfl; apply o_assign; rfl; rfl; refine Tri.nil (Tri.thenN (Tri.ret ?_)))
    have e : k = l.length := by omega
    subst e
    (apply Tri.fin; (case hr => rfl); (case h => (repeat (first | exact ResL.nil | (apply ResL.cons; (case a => (first | exact Res1.tmp rfl | (apply Res1.cell; rfl; (with_reducible repeat constructor); rfl) | (apply Res1.agg; rfl; (with_reducible repeat constructor); rfl; rfl))))))); (apply fin_R (Hn := [])); (case p => (repeat first | with_reducible constructor | constructor)))
    exact ⟨by rw [com32, List.take_length]; rfl, rfl⟩

theorem B8_one (l : List UInt8) : ∀ y ∈ B8 l, y.oneCell' = true := by
  intro y hy; simp [B8] at hy; obtain ⟨c, _, rfl⟩ := hy; rfl
theorem tabL_one : ∀ y ∈ tabL, y.oneCell' = true := by
  intro y hy; simp [tabL] at hy; obtain ⟨c, _, rfl⟩ := hy; rfl
theorem tabL_length : tabL.length = 256 := by simp [tabL]

set_option maxHeartbeats 400000 in
theorem crc_Sum (v : Value) (l : List UInt8) :
    SpecR Try.prog 119 #[tabV, v] (fun w => RdW w v l.length (B8 l)) (fun r H' => r = .int .u32 ((crcSum l).toNat : Int) ∧ H' = []) := by
  refine SpecR.of (fun w hr => ?_)
  refine Calls.enter Try.func119 rfl rfl rfl (St.rebase w) ?_
  simp only [argSlots]
  (refine Tri.seq (Tri.region ?_); apply Tri.op; rfl)
  (first | (apply o_boxA; (case hx => rfl); (case hn => rfl); intro bt) | (apply o_box1; (case hx => rfl); (case h1 => rfl); (case hn => rfl); intro bt))
  (apply Tri.op; rfl; apply o_assign; rfl; rfl; refine Tri.nil (Tri.thenN (Tri.seq (Tri.region ?_))); apply Tri.op; rfl)
  (apply o_loadAll; (case hx => rfl); (case p => (with_reducible repeat constructor)); (case hl => exact tabL_length); (case hn => rfl))
  (apply Tri.op; rfl; apply o_move; rfl; rfl; apply Tri.op; rfl)
  (apply o_callR (hs := crc_Behind 0 v l); (case hargs => (repeat first | exact evs.nil | (apply evs.cons; case a => rfl))); (case hpre => exact rdw_ex (by (with_reducible repeat constructor)) hr); (case hn => rfl))
  rintro v_ H_ ⟨rfl, rfl⟩
  (apply Tri.op; rfl; apply o_assign; rfl; rfl; refine Tri.nil (Tri.thenN (Tri.ret ?_)))
  (apply Tri.fin; (case hr => rfl); (case h => (repeat (first | exact ResL.nil | (apply ResL.cons; (case a => (first | exact Res1.tmp rfl | (apply Res1.cell; rfl; (with_reducible repeat constructor); rfl) | (apply Res1.agg; rfl; (with_reducible repeat constructor); rfl; rfl))))))); (apply fin_R (Hn := [])); (case p => (repeat first | with_reducible constructor | constructor)))
  exact ⟨rfl, rfl⟩

theorem crc_bit_run (j : Nat) (x : UInt32) :
    Go.bits .xor .u32 (((crcBits j x).toNat : Int) / 2 ^ min (Int.toNat 1) IntKind.u32.bits) (Go.bits .and .u32 2197175160 (IntKind.u32.wrap (0 - Go.bits .and .u32 ((crcBits j x).toNat : Int) 1))) = ((crcBits (j + 1) x).toNat : Int) := by
  have h1 : Go.bits .and .u32 ((crcBits j x).toNat : Int) 1 = (((crcBits j x) &&& 1).toNat : Int) := and32 _ 1
  rw [h1, neg32, show (2197175160 : Int) = ((0x82F63B78 : UInt32).toNat : Int) from rfl, and32, shr32 _ 1 (by omega) 1 rfl, xor32, crcBits_succ]
  rfl

/-- the table as far as it is made -/
def tabTo (k : Nat) : List Value := (List.range k).map (fun i => .int .u32 ((crcTab i).toNat : Int)) ++ List.replicate (256 - k) (.int .u32 0)
theorem tabTo_length (k : Nat) (h : k ≤ 256) : (tabTo k).length = 256 := by simp [tabTo]; omega
theorem tabTo_256 : tabTo 256 = tabL := by unfold tabTo tabL; rw [Nat.sub_self, List.replicate_zero, List.append_nil]
theorem tabTo_set (k : Nat) (h : k < 256) : (tabTo k).set k (.int .u32 ((crcTab k).toNat : Int)) = tabTo (k + 1) := by
  unfold tabTo
  have e : 256 - k = (256 - (k + 1)) + 1 := by omega
  rw [List.set_append_right _ _ (by simp), e, List.replicate_succ, List.range_succ]
  simp

set_option maxHeartbeats 400000 in
theorem crc_New : SpecR Try.prog 26 #[] (fun _ => True) (fun r H' => r = tabV ∧ H' = []) := by
  refine SpecR.of (fun w _ => ?_)
  refine Calls.enter Try.func26 rfl rfl rfl (St.rebase w) ?_
  simp only [argSlots]
  (refine Tri.seq (Tri.region ?_); apply Tri.op; rfl)
  (apply o_alloc; (case hn => rfl); intro br)
  (refine Tri.nil (Tri.thenN (Tri.seq (Tri.region ?_))); apply Tri.op; rfl)
  (apply o_alloc; (case hn => rfl); intro bt)
  (refine Tri.nil (Tri.thenN (Tri.seq (Tri.seq (Tri.region ?_)))); apply Tri.op; rfl; apply o_move; rfl; rfl; refine Tri.nil (Tri.thenN (Tri.block ?_)))
  ((with_reducible apply Tri.eqA (A := blk bt 63 (List.replicate 256 (.int .u32 0))) (B := blk bt 63 (tabTo 0))); (case p => (with_reducible repeat constructor)); (case e => rfl))
  (apply Tri.loop (α := { k : Nat // k ≤ 256 }) (m := fun x => 256 - x.1) (Lx := fun x => [(0, .pointer (some ⟨br, 0, none⟩)), (1, .pointer (some ⟨bt, 0, none⟩)), (4, .int .i64 (x.1 : Int))]) (Hx := fun x => [blk br 63 (List.replicate 256 (.int .u32 0)), blk bt 63 (tabTo x.1), Ex (hp w)]) (x0 := ⟨0, Nat.zero_le _⟩); (case hL => ((try dsimp only); (repeat (first | exact trivial | refine And.intro (by rfl) ?_)))); (case hH => ((try dsimp only); apply St.all; (repeat first | with_reducible constructor | constructor)))); (rintro ⟨k, hk⟩ mx hmx; (try dsimp only at hmx ⊢))
  (refine Tri.seq (Tri.region ?_); apply Tri.op; rfl; apply o_lss; rfl; rfl; rfl; refine Tri.nil (Tri.thenN (Tri.seq ?_)))
  (apply Tri.condD; (case hc => rfl); (all_goals intro h))
  · (refine Tri.skip (Tri.thenN (Tri.seq (Tri.block (Tri.seq (Tri.region ?_))))); apply Tri.op; rfl; apply o_move; rfl; rfl; apply Tri.op; rfl; apply o_assign; rfl; rfl; refine Tri.nil (Tri.thenN (Tri.seq (Tri.region ?_))); apply Tri.op; rfl; apply o_move; rfl; rfl; apply Tri.op; rfl; apply o_convI; rfl; rfl; (first | decide | (exact wrap_i64 (by omega)) | (exact wrap_u8 (by omega)) | (exact wrap_u16 (by omega)) | (exact wrap_u32 (by omega)) | (exact wrap_u64 (by omega))); apply Tri.op; rfl; apply o_assign; rfl; rfl; refine Tri.nil (Tri.thenN (Tri.seq (Tri.seq (Tri.region ?_)))); apply Tri.op; rfl; apply o_move; rfl; rfl; refine Tri.nil (Tri.thenN (Tri.block ?_)))
    have hk' : k < 256 := by omega
    ((with_reducible apply Tri.seti 3 (((crcBits 0 (UInt32.ofNat k)).toNat : Int))); (case h => rfl); (case hi => (simp only [crcBits, UInt32.toNat_ofNat']; omega)))
    (apply Tri.loop (α := { j : Nat // j ≤ 8 }) (m := fun x => 8 - x.1) (Lx := fun x => [(0, .pointer (some ⟨br, 0, none⟩)), (1, .pointer (some ⟨bt, 0, none⟩)), (4, .int .i64 (k : Int)), (2, .int .i64 (k : Int)), (9, .int .i64 (x.1 : Int)), (3, .int .u32 ((crcBits x.1 (UInt32.ofNat k)).toNat : Int))]) (Hx := fun _ => [blk br 63 (List.replicate 256 (.int .u32 0)), blk bt 63 (tabTo k), Ex (hp w)]) (x0 := ⟨0, Nat.zero_le _⟩); (case hL => ((try dsimp only); (repeat (first | exact trivial | refine And.intro (by rfl) ?_)))); (case hH => ((try dsimp only); apply St.all; (repeat first | with_reducible constructor | constructor)))); (rintro ⟨j, hj⟩ mx hmx; (try dsimp only at hmx ⊢))
    (refine Tri.seq (Tri.region ?_); apply Tri.op; rfl; apply o_lss; rfl; rfl; rfl; refine Tri.nil (Tri.thenN (Tri.seq ?_)))
    (apply Tri.condD; (case hc => rfl); (all_goals intro h2))
    · (refine Tri.skip (Tri.thenN (Tri.seq (Tri.block (Tri.region ?_)))); apply Tri.op; rfl; apply o_move; rfl; rfl; apply Tri.op; rfl; apply o_shr; rfl; rfl; rfl; (omega); apply Tri.op; rfl; apply o_move; rfl; rfl; apply Tri.op; rfl; apply o_and; rfl; rfl; rfl; apply Tri.op; rfl; apply o_neg; rfl; rfl; apply Tri.op; rfl; apply o_and; rfl; rfl; rfl; apply Tri.op; rfl; apply o_xor; rfl; rfl; rfl; apply Tri.op; rfl; apply o_assign; rfl; rfl; refine Tri.nil (Tri.blockN (Tri.thenN (Tri.region ?_))); apply Tri.op; rfl; apply o_add64; rfl; rfl; rfl; (omega); apply Tri.op; rfl; apply o_move; rfl; rfl; refine Tri.nil (Tri.thenN ?_))
      ((with_reducible apply Tri.seti 3 (((crcBits (j + 1) (UInt32.ofNat k)).toNat : Int))); (case h => rfl); (case hi => exact crc_bit_run j _))
      (apply Tri.again (y := ⟨j + 1, by omega⟩); (case p => ((try dsimp only); (repeat (first | exact Pulls.nil | (apply Pulls.cons; (case a => (first | ((repeat (first | with_reducible exact Gv.Pull.head | with_reducible apply Gv.Pull.tail)); done) | (repeat (first | exact Gv.Pull.head | apply Gv.Pull.tail))))))))); (case hm => ((try dsimp only); omega)); (try dsimp only))
      (repeat (first | exact trivial | refine And.intro (by rfl) ?_))
    · have e : j = 8 := by omega
      subst e
      ((with_reducible refine Tri.exit (Tri.thenE (Tri.thenE (Tri.blockE (Tri.thenN (Tri.region ?_)))))); apply Tri.op; rfl; apply o_move; rfl; rfl; apply Tri.op; rfl; apply o_move; rfl; rfl; apply Tri.op; rfl; apply o_ixArr; rfl; rfl; (first | rfl | exact (Int.toNat_of_nonneg (by omega)).symm); (first | omega | assumption); rfl; apply Tri.op; rfl)
      (apply o_store; (case hx => rfl); (case hy => rfl); (case h1 => rfl); (case p => (with_reducible repeat constructor)); (case hi => (rw [tabTo_length k hk]; omega)))
      ((with_reducible apply Tri.eqA (A := blk bt 63 _) (B := blk bt 63 (tabTo (k + 1)))); (case p => (with_reducible repeat constructor)); (case e => (rw [Nat.zero_add, Nat.mul_one]; exact congrArg _ (tabTo_set k hk'))))
      (refine Tri.nil (Tri.blockN (Tri.thenN (Tri.region ?_))); apply Tri.op; rfl; apply o_add64; rfl; rfl; rfl; (omega); apply Tri.op; rfl; apply o_move; rfl; rfl; refine Tri.nil (Tri.thenN ?_))
      (apply Tri.again (y := ⟨k + 1, by omega⟩); (case p => ((try dsimp only); (repeat (first | exact Pulls.nil | (apply Pulls.cons; (case a => (first | ((repeat (first | with_reducible exact Gv.Pull.head | with_reducible apply Gv.Pull.tail)); done) | (repeat (first | exact Gv.Pull.head | apply Gv.Pull.tail))))))))); (case hm => ((try dsimp only); omega)); (try dsimp only))
      (repeat (first | exact trivial | refine And.intro (by rfl) ?_))
  · have e : k = 256 := by omega
    subst e
    ((with_reducible refine Tri.exit (Tri.thenE (Tri.thenE (Tri.blockE (Tri.thenN (Tri.seq (Tri.region ?_))))))); apply Tri.op; rfl)
    ((with_reducible apply Tri.eqA (A := blk bt 63 (tabTo 256)) (B := blk bt 63 tabL)); (case p => (with_reducible repeat constructor)); (case e => (show blk bt 63 (tabTo 256) = _; rw [tabTo_256])))
    (apply o_loadAll; (case hx => rfl); (case p => (with_reducible repeat constructor)); (case hl => exact tabL_length); (case hn => rfl))
    (apply Tri.op; rfl)
    (apply o_storeAll; (case hx => rfl); (case hy => rfl); (case p => (with_reducible repeat constructor)); (case hl => exact tabL_length); (case hc => exact List.length_replicate); (case h1 => exact tabL_one))
    (refine Tri.nil (Tri.thenN (Tri.ret ?_)))
    apply Tri.fin
    case hr => rfl
    case h => exact ResL.cons (Res1.agg rfl (by (with_reducible repeat constructor)) (by rw [List.drop_zero]; exact List.take_of_length_le (Nat.le_of_eq tabL_length)) tabL_length) ResL.nil
    apply fin_R (Hn := [])
    case p => exact (by (repeat first | with_reducible constructor | constructor))
    exact ⟨rfl, rfl⟩
end Go.Proofs.Ytckdlfbbkemklaa
end
section
/- disk: what its functions compute, in plain terms. -/
namespace Go.Proofs.Ytckdlfbbkemklaa
open Go Go.RowKit Go.Gv
set_option linter.unusedVariables false
set_option linter.unusedSimpArgs false

/-- a write that waits: its sector, the slice that holds its bytes, these bytes -/
structure WW where
  i : Nat
  v : Value
  b : List UInt8
def WL (W : List WW) : List Value := W.flatMap fun x => [.int .i64 (x.i : Int), x.v]
def WT (W : List WW) : List (Value × Nat × List Value) := W.map fun x => (x.v, x.b.length, B8 x.b)
theorem WL_drop : ∀ (W : List WW) (k : Nat), (WL W).drop (k * 2) = WL (W.drop k)
  | W, 0 => rfl
  | [], k + 1 => by simp [WL]
  | x :: W, k + 1 => by
    rw [show (k + 1) * 2 = k * 2 + 2 by omega, ← List.drop_drop, List.drop_drop, Nat.add_comm, ← List.drop_drop]
    exact WL_drop W k
theorem WL_get0 (W : List WW) (k : Nat) (h : k < W.length) : (WL W)[k * 2 + 0]? = some (.int .i64 ((W[k]'h).i : Int)) := by
  have := WL_drop W k
  have e : ((WL W).drop (k * 2))[0]? = (WL W)[k * 2 + 0]? := List.getElem?_drop
  rw [← e, this, List.drop_eq_getElem_cons h]; rfl
theorem WL_get1 (W : List WW) (k : Nat) (h : k < W.length) : (WL W)[k * 2 + 1]? = some (W[k]'h).v := by
  have := WL_drop W k
  have e : ((WL W).drop (k * 2))[1]? = (WL W)[k * 2 + 1]? := List.getElem?_drop
  rw [← e, this, List.drop_eq_getElem_cons h]; rfl
theorem WL_append (V W : List WW) : WL (V ++ W) = WL V ++ WL W := by simp [WL]
theorem WT_append (V W : List WW) : WT (V ++ W) = WT V ++ WT W := by simp [WT]
theorem WT_mem (W : List WW) (k : Nat) (h : k < W.length) : ((W[k]'h).v, (W[k]'h).b.length, B8 (W[k]'h).b) ∈ WT W := List.mem_map.2 ⟨_, List.getElem_mem h, rfl⟩
/-- each waits for a sector that is there, and has 64 bytes -/
def WOk (N : Nat) (W : List WW) : Prop := ∀ x ∈ W, x.i * 64 + 64 ≤ N ∧ x.b.length = 64
theorem WOk.nil (N : Nat) : WOk N [] := fun x hx => by simp at hx
theorem WOk.get {N : Nat} {W : List WW} (h : WOk N W) {k : Nat} (hk : k < W.length) : (W[k]'hk).i * 64 + 64 ≤ N ∧ (W[k]'hk).b.length = 64 := h _ (List.getElem_mem hk)
theorem WOk.add {N : Nat} {W : List WW} (h : WOk N W) {i : Nat} {v : Value} {b : List UInt8} (hi : i * 64 + 64 ≤ N) (hb : b.length = 64) : WOk N (W ++ [⟨i, v, b⟩]) := fun x hx => by
  rcases List.mem_append.1 hx with hx | hx
  · exact h x hx
  · simp at hx; subst hx; exact ⟨hi, hb⟩
/-- may: the error -/
def mayE (off : Bool) (N : Nat) (i : Int) : Nat := if off then 2 else if i < 0 ∨ ((N / 64 : Nat) : Int) ≤ i then 1 else 0
/-- put bytes at a place -/
def putAt (A : List UInt8) (at_ : Nat) (b : List UInt8) : List UInt8 := A.take at_ ++ b ++ A.drop (at_ + b.length)
theorem putAt_length (A : List UInt8) (at_ : Nat) (b : List UInt8) (h : at_ + b.length ≤ A.length) : (putAt A at_ b).length = A.length := by simp [putAt]; omega
/-- the last write that waits for a sector, of the first k -/
def lastW (W : List WW) (i : Int) : Nat → Option (List UInt8)
  | 0 => none
  | k + 1 => match W[k]? with
    | some x => if (x.i : Int) = i then some x.b else lastW W i k
    | none => lastW W i k
theorem lastW_hit {W : List WW} {i : Int} {k : Nat} (h : k < W.length) (e : ((W[k]'h).i : Int) = i) : lastW W i (k + 1) = some (W[k]'h).b := by
  rw [lastW, List.getElem?_eq_getElem h]; simp [e]
theorem lastW_miss {W : List WW} {i : Int} {k : Nat} (h : k < W.length) (e : ¬ ((W[k]'h).i : Int) = i) : lastW W i (k + 1) = lastW W i k := by
  rw [lastW, List.getElem?_eq_getElem h]; simp [e]
def readM (A : List UInt8) (W : List WW) (i : Int) : List UInt8 := (lastW W i W.length).getD ((A.drop (i.toNat * 64)).take 64)
/-- all that waits is done -/
def flushM (A : List UInt8) (W : List WW) : List UInt8 := W.foldl (fun A x => putAt A (x.i * 64) x.b) A
theorem flush_length {N : Nat} : ∀ (W : List WW) (A : List UInt8), WOk N W → A.length = N → (flushM A W).length = N
  | [], A, _, h => h
  | x :: W, A, hW, h => by
    have hx := hW x (List.mem_cons_self ..)
    exact flush_length W _ (fun y hy => hW y (List.mem_cons_of_mem _ hy)) (by rw [putAt_length _ _ _ (by omega), h])
/-- one write by its fate, of the first k parts -/
def keepTo (A : List UInt8) (i : Nat) (b : List UInt8) (atoms : UInt8) : Nat → List UInt8
  | 0 => A
  | k + 1 => if bit8' atoms k then putAt (keepTo A i b atoms k) (i * 64 + k * 8) ((b.drop (k * 8)).take 8) else keepTo A i b atoms k
where bit8' (x : UInt8) (j : Nat) : Bool := decide (Go.bits .and .u8 ((x.toNat : Int) / 2 ^ min (((j : Nat) : Int)).toNat IntKind.u8.bits) 1 = 1)
def keepM (A : List UInt8) (i : Nat) (b : List UInt8) (f : Bool × UInt8) : List UInt8 := if f.1 then keepTo A i b f.2 8 else A
def crashTo (A : List UInt8) (W : List WW) (F : List (Bool × UInt8)) : Nat → List UInt8
  | 0 => A
  | k + 1 => match W[k]?, F[k]? with
    | some x, some f => keepM (crashTo A W F k) x.i x.b f
    | _, _ => crashTo A W F k
def crashM (A : List UInt8) (W : List WW) (F : List (Bool × UInt8)) : List UInt8 := crashTo A W F W.length
end Go.Proofs.Ytckdlfbbkemklaa
end
section
/- disk: what its small functions answer. -/
namespace Go.Proofs.Ytckdlfbbkemklaa
open Go Go.RowKit Go.Gv
set_option linter.unusedVariables false
set_option linter.unusedSimpArgs false

theorem B8_len1 (l : List UInt8) : (B8 l).length = l.length * 1 := by rw [B8_length, Nat.mul_one]
set_option maxHeartbeats 1000000 in
theorem bytes_Clone (v : Value) (l : List UInt8) (hb : l.length ≤ 1000000) : SpecR Try.prog 63 #[v] (fun w => RdW w v l.length (B8 l)) (fun r H' => H' = [own 5 1 r l.length (B8 l)]) := by
  refine SpecR.of (fun w hr => ?_)
  refine Calls.enter Try.func63 rfl rfl rfl (St.rebase w) ?_
  simp only [argSlots]
  (refine Tri.seq (Tri.region ?_); apply Tri.op; rfl; apply o_assign; rfl; rfl; refine Tri.nil (Tri.thenN (Tri.seq (Tri.seq (Tri.region ?_)))); apply Tri.op; rfl; apply o_move; rfl; rfl; apply Tri.op; rfl)
  (apply o_eqlSN; (case hx => rfl); (case hy => rfl); (case hr => exact rdw_ex (by (with_reducible repeat constructor)) hr); (case hn => rfl))
  intro b hbl
  cases b
  · (refine Tri.nil (Tri.thenN ?_); apply Tri.condF; rfl; rfl; refine Tri.skip (Tri.thenN (Tri.seq (Tri.region ?_))); apply Tri.op; rfl)
    (apply o_litSl (ys := []); (case hp => (repeat first | exact pev.nil | (apply pev.cons; case a => rfl))); (case hm => rfl); (case hf => rfl); (case hn => rfl); intro vr)
    (apply Tri.op; rfl; apply o_move; rfl; rfl; apply Tri.op; rfl)
    (apply o_append; (case hx => rfl); (case hy => rfl); (case p => (with_reducible repeat constructor)); (case hr => exact rdw_ex (by (with_reducible repeat constructor)) hr); (case hl => exact B8_len1 l); (case h1 => exact B8_one l); (case hb => omega); (case hn => rfl))
    intro v'
    (apply Tri.op; rfl; apply o_assign; rfl; rfl; refine Tri.nil (Tri.thenN (Tri.ret ?_)))
    ((with_reducible apply Tri.eqA (A := own 5 1 v' _ _) (B := own 5 1 v' l.length (B8 l))); (case p => (with_reducible repeat constructor)); (case e => (rw [Nat.zero_add, List.nil_append])))
    (apply Tri.fin; (case hr => rfl); (case h => (repeat (first | exact ResL.nil | (apply ResL.cons; (case a => (first | exact Res1.tmp rfl | (apply Res1.cell; rfl; (with_reducible repeat constructor); rfl) | (apply Res1.agg; rfl; (with_reducible repeat constructor); rfl; rfl))))))); (apply fin_R (Hn := [own 5 1 v' l.length (B8 l)])); (case p => (repeat first | with_reducible constructor | constructor)))
    simp only [tupled]
  · have hl : l = [] := by
      have := hbl rfl
      cases l with
      | nil => rfl
      | cons x l => simp [B8] at this
    subst hl
    (refine Tri.nil (Tri.thenN ?_); apply Tri.condT; rfl; rfl; refine Tri.seq (Tri.region ?_); apply Tri.op; rfl; apply o_assign; rfl; rfl; refine Tri.nil (Tri.thenN (Tri.ret (Tri.thenR ?_))))
    (with_reducible apply Tri.ownNil 5 1)
    (apply Tri.fin; (case hr => rfl); (case h => (repeat (first | exact ResL.nil | (apply ResL.cons; (case a => (first | exact Res1.tmp rfl | (apply Res1.cell; rfl; (with_reducible repeat constructor); rfl) | (apply Res1.agg; rfl; (with_reducible repeat constructor); rfl; rfl))))))); (apply fin_R (Hn := [own 5 1 (.slice none 0 0) 0 []])); (case p => (repeat first | with_reducible constructor | constructor)))
    rfl

set_option maxHeartbeats 1000000 in
theorem disk_may (p a : Nat) (N : Nat) (vw : Value) (off : Bool) (till i : Int) (hN : N ≤ 1000000) : Gv.Spec Try.prog 139 #[.pointer (some ⟨p, 0, none⟩), .int .i64 i] [blk p 132 [.slice (some ⟨a, 0, none⟩) N N, vw, .bool off, .int .i64 till]]
    (fun r H' => r = .int .i64 (mayE off N i : Int) ∧ H' = [blk p 132 [.slice (some ⟨a, 0, none⟩) N N, vw, .bool off, .int .i64 till]]) := by
  refine Gv.Spec.of (fun w h0 hw => ?_)
  refine Calls.enter Try.func139 rfl rfl rfl hw ?_
  simp only [argSlots]
  (try dsimp only [List.cons_append, List.nil_append])
  (refine Tri.seq (Tri.region ?_); apply Tri.op; rfl; apply o_assign; rfl; rfl; refine Tri.nil (Tri.thenN (Tri.seq (Tri.block (Tri.seq (Tri.region ?_))))); apply Tri.op; rfl; apply o_move; rfl; rfl; apply Tri.op; rfl; apply o_eqlN; rfl; rfl; rfl; apply Tri.op; rfl; apply o_assign; rfl; rfl; refine Tri.nil (Tri.thenN ?_))
  ((with_reducible apply Tri.setb 5 (false)); (case h => rfl); (case hi => rfl))
  (apply Tri.condF; rfl; rfl; refine Tri.seq (Tri.region ?_); apply Tri.op; rfl; apply o_move; rfl; rfl; apply Tri.op; rfl; apply o_nilCheck; rfl; rfl; apply Tri.op; rfl; apply o_fieldAddr; rfl; rfl; apply Tri.op; rfl; apply o_load; rfl; (with_reducible repeat constructor); rfl; rfl; apply Tri.op; rfl; apply o_assign; rfl; rfl; refine Tri.nil (Tri.thenN ?_))
  (apply Tri.cond; (case hc => rfl); (all_goals intro h1))
  · (refine Tri.seq (Tri.region ?_); apply Tri.op; rfl; apply o_assign; rfl; rfl; refine Tri.nil (Tri.thenN (Tri.ret (Tri.blockR (Tri.thenR ?_)))))
    (apply Tri.fin; (case hr => rfl); (case h => (repeat (first | exact ResL.nil | (apply ResL.cons; (case a => (first | exact Res1.tmp rfl | (apply Res1.cell; rfl; (with_reducible repeat constructor); rfl) | (apply Res1.agg; rfl; (with_reducible repeat constructor); rfl; rfl))))))); (apply fin_R (Hn := [blk p 132 [.slice (some ⟨a, 0, none⟩) N N, vw, .bool off, .int .i64 till]])); (case p => (repeat first | with_reducible constructor | constructor)))
    exact ⟨by rw [mayE, h1]; rfl, rfl⟩
  · (refine Tri.seq (Tri.region ?_); apply Tri.op; rfl; apply o_move; rfl; rfl; apply Tri.op; rfl; apply o_lss; rfl; rfl; rfl; apply Tri.op; rfl; apply o_move; rfl; rfl)
    ((with_reducible apply Tri.casesB 16); (case h => rfl); (all_goals intro h2))
    · have h2' := of_decide_eq_true h2
      ((iterate 8 apply Tri.opNo (c := true); (iterate 6 rfl)); apply Tri.op; rfl; apply o_pickT; (iterate 4 rfl); apply Tri.op; rfl; apply o_assign; rfl; rfl; refine Tri.nil (Tri.thenN ?_); apply Tri.condT; rfl; rfl; refine Tri.seq (Tri.region ?_); apply Tri.op; rfl; apply o_assign; rfl; rfl; refine Tri.nil (Tri.thenN (Tri.ret (Tri.blockR (Tri.thenR ?_)))))
      (apply Tri.fin; (case hr => rfl); (case h => (repeat (first | exact ResL.nil | (apply ResL.cons; (case a => (first | exact Res1.tmp rfl | (apply Res1.cell; rfl; (with_reducible repeat constructor); rfl) | (apply Res1.agg; rfl; (with_reducible repeat constructor); rfl; rfl))))))); (apply fin_R (Hn := [blk p 132 [.slice (some ⟨a, 0, none⟩) N N, vw, .bool off, .int .i64 till]])); (case p => (repeat first | with_reducible constructor | constructor)))
      exact ⟨by rw [mayE, h1, if_neg (by simp), if_pos (.inl h2')]; rfl, rfl⟩
    · have h2' := of_decide_eq_false h2
      (apply Tri.opYes; rfl; rfl; rfl; apply o_move; rfl; rfl; apply Tri.opYes; rfl; rfl; rfl; apply o_move; rfl; rfl; apply Tri.opYes; rfl; rfl; rfl; apply o_nilCheck; rfl; rfl; apply Tri.opYes; rfl; rfl; rfl; apply o_fieldAddr; rfl; rfl; apply Tri.opYes; rfl; rfl; rfl; apply o_load; rfl; (with_reducible repeat constructor); rfl; rfl; apply Tri.opYes; rfl; rfl; rfl; apply o_len; rfl; rfl; apply Tri.opYes; rfl; rfl; rfl; apply o_quo; rfl; rfl; rfl; (omega); (omega); apply Tri.opYes; rfl; rfl; rfl; apply o_geq; rfl; rfl; rfl; apply Tri.op; rfl; apply o_pickF; (iterate 4 rfl); apply Tri.op; rfl; apply o_assign; rfl; rfl; refine Tri.nil (Tri.thenN ?_))
      (apply Tri.condD; (case hc => rfl); (all_goals intro h3))
      · (refine Tri.seq (Tri.region ?_); apply Tri.op; rfl; apply o_assign; rfl; rfl; refine Tri.nil (Tri.thenN (Tri.ret (Tri.blockR (Tri.thenR ?_)))))
        (apply Tri.fin; (case hr => rfl); (case h => (repeat (first | exact ResL.nil | (apply ResL.cons; (case a => (first | exact Res1.tmp rfl | (apply Res1.cell; rfl; (with_reducible repeat constructor); rfl) | (apply Res1.agg; rfl; (with_reducible repeat constructor); rfl; rfl))))))); (apply fin_R (Hn := [blk p 132 [.slice (some ⟨a, 0, none⟩) N N, vw, .bool off, .int .i64 till]])); (case p => (repeat first | with_reducible constructor | constructor)))
        exact ⟨by rw [mayE, h1, if_neg (by simp), if_pos (.inr (by omega))]; rfl, rfl⟩
      · (refine Tri.skip (Tri.blockN (Tri.thenN (Tri.seq (Tri.region ?_)))); apply Tri.op; rfl; apply o_assign; rfl; rfl; refine Tri.nil (Tri.thenN (Tri.ret ?_)))
        (apply Tri.fin; (case hr => rfl); (case h => (repeat (first | exact ResL.nil | (apply ResL.cons; (case a => (first | exact Res1.tmp rfl | (apply Res1.cell; rfl; (with_reducible repeat constructor); rfl) | (apply Res1.agg; rfl; (with_reducible repeat constructor); rfl; rfl))))))); (apply fin_R (Hn := [blk p 132 [.slice (some ⟨a, 0, none⟩) N N, vw, .bool off, .int .i64 till]])); (case p => (repeat first | with_reducible constructor | constructor)))
        exact ⟨by rw [mayE, h1, if_neg (by simp), if_neg (by omega)]; rfl, rfl⟩

set_option maxHeartbeats 1000000 in
theorem disk_sector (p a : Nat) (N i : Nat) (vw : Value) (off : Bool) (till : Int) (hN : N ≤ 1000000) (hi : i * 64 + 64 ≤ N) : Gv.Spec Try.prog 62 #[.pointer (some ⟨p, 0, none⟩), .int .i64 (i : Int)] [blk p 132 [.slice (some ⟨a, 0, none⟩) N N, vw, .bool off, .int .i64 till]]
    (fun r H' => r = .slice (some ⟨a, i * 64, none⟩) 64 (N - i * 64) ∧ H' = [blk p 132 [.slice (some ⟨a, 0, none⟩) N N, vw, .bool off, .int .i64 till]]) := by
  refine Gv.Spec.of (fun w h0 hw => ?_)
  refine Calls.enter Try.func62 rfl rfl rfl hw ?_
  simp only [argSlots]
  (try dsimp only [List.cons_append, List.nil_append])
  (refine Tri.seq (Tri.region ?_); apply Tri.op; rfl; apply o_assign; rfl; rfl; refine Tri.nil (Tri.thenN (Tri.seq (Tri.region ?_))); apply Tri.op; rfl; apply o_move; rfl; rfl; apply Tri.op; rfl; apply o_nilCheck; rfl; rfl; apply Tri.op; rfl; apply o_fieldAddr; rfl; rfl; apply Tri.op; rfl; apply o_load; rfl; (with_reducible repeat constructor); rfl; rfl; apply Tri.op; rfl; apply o_move; rfl; rfl; apply Tri.op; rfl; apply o_mul64; rfl; rfl; rfl; (omega); apply Tri.op; rfl; apply o_move; rfl; rfl; apply Tri.op; rfl; apply o_add64; rfl; rfl; rfl; (omega); apply Tri.op; rfl; apply o_mul64; rfl; rfl; rfl; (omega); apply Tri.op; rfl)
  ((with_reducible apply Tri.seti 10 (((i * 64 : Nat) : Int))); (case h => rfl); (case hi => omega))
  ((with_reducible apply Tri.seti 13 (((i * 64 + 64 : Nat) : Int))); (case h => rfl); (case hi => omega))
  (apply o_sliceB (lo := i * 64) (hi := i * 64 + 64); (case hx => rfl); (case hol => first | exact fun _ _ => rfl | exact fun a ha => congrArg some (ha.eval rfl)); (case hoh => first | exact fun _ _ => rfl | exact fun a ha => congrArg some (ha.eval rfl)); (case hlo => first | exact .inr ⟨rfl, rfl⟩ | exact .inl ⟨_, rfl⟩ | exact .inl ⟨_, (by congr 2; omega)⟩); (case hhi => first | exact .inr ⟨rfl, rfl⟩ | exact .inl ⟨_, rfl⟩ | exact .inl ⟨_, (by congr 2; omega)⟩); (case hlh => omega); (case hhm => omega); (case hne => omega); (case hn => rfl))
  (apply Tri.op; rfl; apply o_assign; rfl; rfl; refine Tri.nil (Tri.thenN (Tri.ret ?_)))
  (apply Tri.fin; (case hr => rfl); (case h => (repeat (first | exact ResL.nil | (apply ResL.cons; (case a => (first | exact Res1.tmp rfl | (apply Res1.cell; rfl; (with_reducible repeat constructor); rfl) | (apply Res1.agg; rfl; (with_reducible repeat constructor); rfl; rfl))))))); (apply fin_R (Hn := [blk p 132 [.slice (some ⟨a, 0, none⟩) N N, vw, .bool off, .int .i64 till]])); (case p => (repeat first | with_reducible constructor | constructor)))
  refine ⟨?_, rfl⟩
  simp only [tupled]
  congr 1
  · congr 1; congr 1; omega
  · omega

/-- does power go? what is till then? -/
def stopB (till : Int) : Bool := decide (till = 0)
def stopT (till : Int) : Int := if till = 0 then -1 else max (till - 1) (-1)
set_option maxHeartbeats 1000000 in
theorem disk_stops (p : Nat) (va vw : Value) (off : Bool) (till : Int) (ht : -1 ≤ till ∧ till ≤ 9223372036854775807) : Gv.Spec Try.prog 61 #[.pointer (some ⟨p, 0, none⟩)] [blk p 132 [va, vw, .bool off, .int .i64 till]]
    (fun r H' => r = .bool (stopB till) ∧ H' = [blk p 132 [va, vw, .bool (off || stopB till), .int .i64 (stopT till)]]) := by
  refine Gv.Spec.of (fun w h0 hw => ?_)
  refine Calls.enter Try.func61 rfl rfl rfl hw ?_
  simp only [argSlots]
  (try dsimp only [List.cons_append, List.nil_append])
  (refine Tri.seq (Tri.region ?_); apply Tri.op; rfl; apply o_assign; rfl; rfl; refine Tri.nil (Tri.thenN (Tri.seq (Tri.seq (Tri.region ?_)))); apply Tri.op; rfl; apply o_move; rfl; rfl; apply Tri.op; rfl; apply o_nilCheck; rfl; rfl; apply Tri.op; rfl; apply o_fieldAddr; rfl; rfl; apply Tri.op; rfl; apply o_load; rfl; (with_reducible repeat constructor); rfl; rfl; apply Tri.op; rfl; apply o_eql; rfl; rfl; rfl; refine Tri.nil (Tri.thenN ?_))
  (apply Tri.condD; (case hc => rfl); (all_goals intro h1))
  · (refine Tri.seq (Tri.region ?_); apply Tri.op; rfl; apply o_move; rfl; rfl; apply Tri.op; rfl; apply o_move; rfl; rfl; apply Tri.op; rfl; apply o_nilCheck; rfl; rfl; apply Tri.op; rfl; apply o_fieldAddr; rfl; rfl; apply Tri.op; rfl)
    (apply o_store; (case hx => rfl); (case hy => rfl); (case h1 => rfl); (case p => (with_reducible repeat constructor)); (case hi => (show 2 < 4; omega)))
    (apply Tri.op; rfl; apply o_nilCheck; rfl; rfl; apply Tri.op; rfl; apply o_fieldAddr; rfl; rfl; apply Tri.op; rfl)
    (apply o_store; (case hx => rfl); (case hy => rfl); (case h1 => rfl); (case p => (with_reducible repeat constructor)); (case hi => (show 3 < 4; omega)))
    (refine Tri.nil (Tri.thenN (Tri.seq (Tri.region ?_))); apply Tri.op; rfl; apply o_assign; rfl; rfl; refine Tri.nil (Tri.thenN (Tri.ret (Tri.thenR ?_))))
    (apply Tri.fin; (case hr => rfl); (case h => (repeat (first | exact ResL.nil | (apply ResL.cons; (case a => (first | exact Res1.tmp rfl | (apply Res1.cell; rfl; (first | ((repeat (first | with_reducible exact Pull.head | with_reducible apply Pull.tail)); done) | (repeat (first | exact Pull.head | apply Pull.tail))); rfl) | (apply Res1.agg; rfl; (first | ((repeat (first | with_reducible exact Pull.head | with_reducible apply Pull.tail)); done) | (repeat (first | exact Pull.head | apply Pull.tail))); rfl; rfl))))))); (apply fin_R (Hn := [blk p 132 [va, vw, .bool true, .int .i64 (-1)]])); (case p => (repeat (first | exact Pulls.nil | (apply Pulls.cons; (case a => (first | ((repeat (first | with_reducible exact Gv.Pull.head | with_reducible apply Gv.Pull.tail)); done) | (repeat (first | exact Gv.Pull.head | apply Gv.Pull.tail)))))))))
    exact ⟨by rw [stopB, decide_eq_true h1]; rfl, by rw [stopB, stopT, if_pos h1, decide_eq_true h1, Bool.or_true]⟩
  · (refine Tri.skip (Tri.thenN (Tri.seq (Tri.region ?_))); apply Tri.op; rfl; apply o_move; rfl; rfl; apply Tri.op; rfl; apply o_move; rfl; rfl; apply Tri.op; rfl; apply o_nilCheck; rfl; rfl; apply Tri.op; rfl; apply o_fieldAddr; rfl; rfl; apply Tri.op; rfl; apply o_load; rfl; (focus (first | ((repeat (first | with_reducible exact Pull.head | with_reducible apply Pull.tail)); done) | (repeat (first | exact Pull.head | apply Pull.tail)))); rfl; rfl; apply Tri.op; rfl; apply o_sub64; rfl; rfl; rfl; (omega); apply Tri.op; rfl; apply o_max; rfl; rfl; rfl; apply Tri.op; rfl; apply o_nilCheck; rfl; rfl; apply Tri.op; rfl; apply o_fieldAddr; rfl; rfl; apply Tri.op; rfl)
    (apply o_store; (case hx => rfl); (case hy => rfl); (case h1 => rfl); (case p => (with_reducible repeat constructor)); (case hi => (show 3 < 4; omega)))
    (refine Tri.nil (Tri.thenN (Tri.seq (Tri.region ?_))); apply Tri.op; rfl; apply o_assign; rfl; rfl; refine Tri.nil (Tri.thenN (Tri.ret ?_)))
    (apply Tri.fin; (case hr => rfl); (case h => (repeat (first | exact ResL.nil | (apply ResL.cons; (case a => (first | exact Res1.tmp rfl | (apply Res1.cell; rfl; (first | ((repeat (first | with_reducible exact Pull.head | with_reducible apply Pull.tail)); done) | (repeat (first | exact Pull.head | apply Pull.tail))); rfl) | (apply Res1.agg; rfl; (first | ((repeat (first | with_reducible exact Pull.head | with_reducible apply Pull.tail)); done) | (repeat (first | exact Pull.head | apply Pull.tail))); rfl; rfl))))))); (apply fin_R (Hn := [blk p 132 [va, vw, .bool off, .int .i64 (max (till - 1) (-1))]])); (case p => (repeat (first | exact Pulls.nil | (apply Pulls.cons; (case a => (first | ((repeat (first | with_reducible exact Gv.Pull.head | with_reducible apply Gv.Pull.tail)); done) | (repeat (first | exact Gv.Pull.head | apply Gv.Pull.tail)))))))))
    exact ⟨by rw [stopB, decide_eq_false h1]; rfl, by rw [stopB, stopT, if_neg h1, decide_eq_false h1, Bool.or_false]⟩

end Go.Proofs.Ytckdlfbbkemklaa
end
section
/- A disk by what it says: its image, what waits, and all of it in one (plain terms). -/
namespace Go.Proofs.Ytckdlfbbkemklaa
open Go Go.RowKit Go.Gv
set_option linter.unusedVariables false
set_option linter.unusedSimpArgs false

/-- a disk: what stays, what waits, is it off, when it falls -/
structure DS where
  A : List UInt8
  W : List (Nat × List UInt8)
  off : Bool
  till : Int
def WP2 (W : List WW) : List (Nat × List UInt8) := W.map fun x => (x.i, x.b)
/-- all that waits done -/
def flW (A : List UInt8) (W : List (Nat × List UInt8)) : List UInt8 := W.foldl (fun A x => putAt A (x.1 * 64) x.2) A
def DS.V (S : DS) : List UInt8 := flW S.A S.W
def DS.ok (S : DS) : Prop := S.A.length ≤ 1000000 ∧ (-1 ≤ S.till ∧ S.till ≤ 9223372036854775807) ∧ ∀ x ∈ S.W, x.1 * 64 + 64 ≤ S.A.length ∧ x.2.length = 64
theorem flW_WP (A : List UInt8) (W : List WW) : flW A (WP2 W) = flushM A W := by
  unfold flW WP2 flushM
  rw [List.foldl_map]
theorem flW_length : ∀ (W : List (Nat × List UInt8)) (A : List UInt8), (∀ x ∈ W, x.1 * 64 + 64 ≤ A.length ∧ x.2.length = 64) → (flW A W).length = A.length
  | [], A, _ => rfl
  | x :: W, A, h => by
    have hx := h x (List.mem_cons_self ..)
    have hl := putAt_length A (x.1 * 64) x.2 (by omega)
    show (flW (putAt A (x.1 * 64) x.2) W).length = _
    rw [flW_length W _ (fun y hy => by rw [hl]; exact h y (List.mem_cons_of_mem _ hy)), hl]
theorem DS.V_length {S : DS} (h : S.ok) : S.V.length = S.A.length := flW_length _ _ h.2.2
theorem flW_append (A : List UInt8) (W W' : List (Nat × List UInt8)) : flW A (W ++ W') = flW (flW A W) W' := by unfold flW; rw [List.foldl_append]
/-- a sector -/
def sec (V : List UInt8) (i : Nat) : List UInt8 := (V.drop (i * 64)).take 64
theorem sec_put_same (A : List UInt8) (i : Nat) (b : List UInt8) (hi : i * 64 + 64 ≤ A.length) (hb : b.length = 64) : sec (putAt A (i * 64) b) i = b := by
  unfold sec putAt
  rw [List.append_assoc, List.drop_append_of_le_length (by rw [List.length_take]; omega), List.drop_of_length_le (by rw [List.length_take]; omega), List.nil_append, List.take_left' hb]
theorem sec_put_other (A : List UInt8) (i j : Nat) (b : List UInt8) (hi : i * 64 + 64 ≤ A.length) (hb : b.length = 64) (hj : j ≠ i) : sec (putAt A (i * 64) b) j = sec A j := by
  unfold sec
  apply List.ext_getElem?
  intro k
  rw [List.getElem?_take, List.getElem?_take]
  split
  · rename_i hk
    rw [List.getElem?_drop, List.getElem?_drop]
    unfold putAt
    have hlt : (A.take (i * 64)).length = i * 64 := by rw [List.length_take]; omega
    by_cases hji : j < i
    · have : j * 64 + k < i * 64 := by
        have : (j + 1) * 64 ≤ i * 64 := Nat.mul_le_mul_right 64 hji
        omega
      rw [List.append_assoc, List.getElem?_append_left (by omega), List.getElem?_take, if_pos this]
    · have : i * 64 + 64 ≤ j * 64 + k := by
        have : (i + 1) * 64 ≤ j * 64 := Nat.mul_le_mul_right 64 (by omega)
        omega
      rw [List.getElem?_append_right (by rw [List.length_append]; omega), List.getElem?_drop, List.length_append, hlt, hb]
      congr 1; omega
  · rfl
theorem lastW_sec {N : Nat} : ∀ (k : Nat) (W : List WW) (A : List UInt8), A.length = N → (∀ x ∈ W, x.i * 64 + 64 ≤ N ∧ x.b.length = 64) → ∀ i : Nat, k ≤ W.length → (lastW W (i : Int) k).getD (sec A i) = sec (flushM A (W.take k)) i
  | 0, W, A, _, _, i, _ => rfl
  | k + 1, W, A, hA, hW, i, hk => by
    have hlt : k < W.length := by omega
    have hx := hW _ (List.getElem_mem hlt)
    have hfl : (flushM A (W.take k)).length = N := flush_length _ _ (fun y hy => hW y (List.mem_of_mem_take hy)) hA
    have ht : flushM A (W.take (k + 1)) = putAt (flushM A (W.take k)) ((W[k]'hlt).i * 64) (W[k]'hlt).b := by
      rw [flushM, List.take_succ_eq_append_getElem hlt, List.foldl_append]; rfl
    rw [ht]
    by_cases e : (W[k]'hlt).i = i
    · rw [lastW_hit hlt (by omega), ← e, sec_put_same _ _ _ (by omega) hx.2]; rfl
    · rw [lastW_miss hlt (by omega), sec_put_other _ _ _ _ (by omega) hx.2 (by omega)]
      exact lastW_sec k W A hA hW i (by omega)
theorem readM_sec {A : List UInt8} {W : List WW} (hW : WOk A.length W) (i : Nat) : readM A W (i : Int) = sec (flushM A W) i := by
  have := lastW_sec W.length W A rfl hW i (Nat.le_refl _)
  rw [List.take_length] at this
  rw [← this]; rfl
/-- a write: the disk behind it, and the error -/
def DS.wr (S : DS) (i : Int) (b : List UInt8) : DS × Nat :=
  if mayE S.off S.A.length i ≠ 0 then (S, mayE S.off S.A.length i) else if b.length ≠ 64 then (S, 1) else if S.till = 0 then ({ S with off := true, till := -1 }, 2) else ({ S with W := S.W ++ [(i.toNat, b)], till := stopT S.till }, 0)
/-- sector by sector, up to an error -/
def DS.wrs (S : DS) (i : Int) : List (List UInt8) → DS × Nat
  | [] => (S, 0)
  | b :: bs => if (S.wr i b).2 = 0 then (S.wr i b).1.wrs (i + 1) bs else S.wr i b
theorem mayD_ok {off : Bool} {N : Nat} {i : Int} (h : mayE off N i = 0) : off = false ∧ 0 ≤ i ∧ i.toNat * 64 + 64 ≤ N := by
  unfold mayE at h
  cases off
  · simp only [Bool.false_eq_true, if_false] at h
    split at h
    · cases h
    · exact ⟨rfl, by omega, by omega⟩
  · simp at h
theorem mayD_of {N i : Nat} (h : i * 64 + 64 ≤ N) : mayE false N (i : Int) = 0 := by
  unfold mayE
  rw [if_neg (by simp), if_neg (by omega)]
theorem DS.wr_ok {S : DS} (h : S.ok) (i : Int) (b : List UInt8) : (S.wr i b).1.ok := by
  unfold DS.wr
  split
  · exact h
  · rename_i hm
    obtain ⟨_, h1, h2⟩ := mayD_ok (Classical.byContradiction hm)
    split
    · exact h
    · split
      · exact ⟨h.1, by simp, h.2.2⟩
      · refine ⟨h.1, ?_, fun x hx => ?_⟩
        · have := h.2.1
          show -1 ≤ stopT S.till ∧ stopT S.till ≤ 9223372036854775807
          unfold stopT; split <;> omega
        · rcases List.mem_append.1 hx with hx | hx
          · exact h.2.2 x hx
          · simp at hx; subst hx; exact ⟨h2, by show b.length = 64; omega⟩
theorem DS.wr_len (S : DS) (i : Int) (b : List UInt8) : (S.wr i b).1.W.length ≤ S.W.length + 1 ∧ (S.wr i b).1.A = S.A := by
  unfold DS.wr
  repeat' split
  all_goals simp
theorem DS.wrs_snoc : ∀ (bs : List (List UInt8)) (S : DS) (i : Int) (b : List UInt8), (S.wrs i bs).2 = 0 → S.wrs i (bs ++ [b]) = (S.wrs i bs).1.wr (i + bs.length) b
  | [], S, i, b, _ => by
    show (if (S.wr i b).2 = 0 then ((S.wr i b).1, 0) else S.wr i b) = S.wr (i + 0) b
    rw [Int.add_zero]
    split
    · rename_i h; rw [← h]
    · rfl
  | c :: bs, S, i, b, h => by
    show (if (S.wr i c).2 = 0 then (S.wr i c).1.wrs (i + 1) (bs ++ [b]) else S.wr i c) = _
    have hu : S.wrs i (c :: bs) = if (S.wr i c).2 = 0 then (S.wr i c).1.wrs (i + 1) bs else S.wr i c := rfl
    rw [hu] at h ⊢
    by_cases hc : (S.wr i c).2 = 0
    · rw [if_pos hc] at h ⊢
      rw [if_pos hc, DS.wrs_snoc bs _ _ b h]
      congr 1
      rw [List.length_cons]; omega
    · rw [if_neg hc] at h
      exact absurd h hc
/-- where one is an error the rest is not done -/
theorem DS.wrs_stop : ∀ (bs cs : List (List UInt8)) (S : DS) (i : Int), (S.wrs i bs).2 ≠ 0 → S.wrs i (bs ++ cs) = S.wrs i bs
  | [], _, _, _, h => absurd rfl h
  | b :: bs, cs, S, i, h => by
    show (if (S.wr i b).2 = 0 then (S.wr i b).1.wrs (i + 1) (bs ++ cs) else S.wr i b) = if (S.wr i b).2 = 0 then (S.wr i b).1.wrs (i + 1) bs else S.wr i b
    have hu : S.wrs i (b :: bs) = if (S.wr i b).2 = 0 then (S.wr i b).1.wrs (i + 1) bs else S.wr i b := rfl
    rw [hu] at h
    by_cases hc : (S.wr i b).2 = 0
    · rw [if_pos hc] at h ⊢
      rw [if_pos hc]; exact DS.wrs_stop bs cs _ _ h
    · rw [if_neg hc, if_neg hc]
theorem putAt_putAt (A : List UInt8) (i : Nat) (b c : List UInt8) (h : i ≤ A.length) : putAt (putAt A i b) (i + b.length) c = putAt A i (b ++ c) := by
  have hl : (A.take i ++ b).length = i + b.length := by rw [List.length_append, List.length_take]; omega
  unfold putAt
  rw [List.take_left' hl, List.drop_append, hl, List.drop_of_length_le (by omega), List.nil_append, show i + b.length + c.length - (i + b.length) = c.length by omega, List.drop_drop, List.length_append]
  simp [Nat.add_assoc]
theorem DS.wrs_ok : ∀ (bs : List (List UInt8)) {S : DS} (i : Int), S.ok → (S.wrs i bs).1.ok
  | [], _, _, h => h
  | b :: bs, S, i, h => by
    show (if (S.wr i b).2 = 0 then (S.wr i b).1.wrs (i + 1) bs else S.wr i b).1.ok
    split
    · exact DS.wrs_ok bs _ (DS.wr_ok h i b)
    · exact DS.wr_ok h i b
theorem DS.wrs_len : ∀ (bs : List (List UInt8)) (S : DS) (i : Int), (S.wrs i bs).1.W.length ≤ S.W.length + bs.length ∧ (S.wrs i bs).1.A = S.A
  | [], S, _ => ⟨Nat.le_refl _, rfl⟩
  | b :: bs, S, i => by
    have h1 := DS.wr_len S i b
    show (if (S.wr i b).2 = 0 then (S.wr i b).1.wrs (i + 1) bs else S.wr i b).1.W.length ≤ _ ∧ (if (S.wr i b).2 = 0 then (S.wr i b).1.wrs (i + 1) bs else S.wr i b).1.A = _
    split
    · have h2 := DS.wrs_len bs (S.wr i b).1 (i + 1)
      rw [List.length_cons]
      exact ⟨by omega, by rw [h2.2, h1.2]⟩
    · rw [List.length_cons]
      exact ⟨by omega, h1.2⟩
/-- bytes in pieces of a sector -/
def secs (b : List UInt8) (k : Nat) : List (List UInt8) := (List.range k).map (fun j => sec b j)
theorem secs_length (b : List UInt8) (k : Nat) : (secs b k).length = k := by simp [secs]
theorem secs_succ (b : List UInt8) (k : Nat) : secs b (k + 1) = secs b k ++ [sec b k] := by simp [secs, List.range_succ]
theorem sec_length {b : List UInt8} {j : Nat} (h : j * 64 + 64 ≤ b.length) : (sec b j).length = 64 := by simp [sec]; omega
/-- all of a text written where there is room, with power: what is said then -/
theorem DS.wrs_V {S : DS} (h : S.ok) (i : Nat) (b : List UInt8) (ho : S.off = false) (ht : S.till = -1) : ∀ k, i * 64 + k * 64 ≤ S.A.length → k * 64 ≤ b.length →
    (S.wrs (i : Int) (secs b k)).2 = 0 ∧ (S.wrs (i : Int) (secs b k)).1.off = false ∧ (S.wrs (i : Int) (secs b k)).1.till = -1 ∧ (S.wrs (i : Int) (secs b k)).1.V = putAt S.V (i * 64) (b.take (k * 64))
  | 0, _, _ => by
    refine ⟨rfl, ho, ht, ?_⟩
    show S.V = putAt S.V (i * 64) (b.take (0 * 64))
    simp [putAt]
  | k + 1, h1, h2 => by
    obtain ⟨g1, g2, g3, g4⟩ := DS.wrs_V h i b ho ht k (by omega) (by omega)
    have hok := DS.wrs_ok (secs b k) (i : Int) h
    have hA := (DS.wrs_len (secs b k) S (i : Int)).2
    have hl := sec_length (b := b) (j := k) (by omega)
    have hVl := DS.V_length h
    rw [secs_succ, DS.wrs_snoc _ _ _ _ g1, secs_length]
    have hm : mayE (S.wrs (i : Int) (secs b k)).1.off (S.wrs (i : Int) (secs b k)).1.A.length ((i : Int) + (k : Int)) = 0 := by
      rw [g2, hA]; exact mayD_of (i := i + k) (by omega)
    unfold DS.wr
    rw [if_neg (by rw [hm]; simp), if_neg (by omega), if_neg (by rw [g3]; decide)]
    refine ⟨rfl, g2, by show stopT _ = _; rw [g3]; rfl, ?_⟩
    show flW _ (_ ++ [_]) = _
    rw [flW_append]
    show putAt (S.wrs (i : Int) (secs b k)).1.V (((i : Int) + (k : Int)).toNat * 64) (sec b k) = _
    rw [g4, show ((i : Int) + (k : Int)).toNat = i + k by omega]
    have ht : (b.take (k * 64)).length = k * 64 := by rw [List.length_take]; omega
    have e : b.take ((k + 1) * 64) = b.take (k * 64) ++ sec b k := by
      rw [show (k + 1) * 64 = k * 64 + 64 by omega, List.take_add]; rfl
    have hp : (S.V.take (i * 64)).length = i * 64 := by rw [List.length_take]; omega
    have hq := putAt_putAt S.V (i * 64) (b.take (k * 64)) (sec b k) (by omega)
    rw [ht] at hq
    rw [e, show (i + k) * 64 = i * 64 + k * 64 by omega, hq]
end Go.Proofs.Ytckdlfbbkemklaa
end
section
/- disk: New, and what is told of a disk. -/
namespace Go.Proofs.Ytckdlfbbkemklaa
open Go Go.RowKit Go.Gv
set_option linter.unusedVariables false
set_option linter.unusedSimpArgs false

set_option maxHeartbeats 1000000 in
theorem disk_New (k : Nat) (h : 8 ≤ k ∧ k ≤ 512) : SpecR Try.prog 25 #[.int .i64 (k : Int)] (fun _ => True) (fun r H' => ∃ p a, r = .tuple #[.pointer (some ⟨p, 0, none⟩), .int .i64 0] ∧ H' = [blk p 132 [.slice (some ⟨a, 0, none⟩) (List.replicate (k * 256) (0 : UInt8)).length (List.replicate (k * 256) (0 : UInt8)).length, (.slice none 0 0), .bool false, .int .i64 (-1)], blk a 5 (B8 (List.replicate (k * 256) (0 : UInt8))), own 139 2 (.slice none 0 0) (([] : List WW)).length (WL (([] : List WW))), manyRd (WT (([] : List WW)))]) := by
  refine SpecR.of (fun w _ => ?_)
  refine Calls.enter Try.func25 rfl rfl rfl (St.rebase w) ?_
  simp only [argSlots]
  (refine Tri.seq (Tri.region ?_); apply Tri.op; rfl; apply o_assign; rfl; rfl; apply Tri.op; rfl; apply o_assign; rfl; rfl; refine Tri.nil (Tri.thenN (Tri.seq (Tri.seq (Tri.region ?_)))); apply Tri.op; rfl; apply o_move; rfl; rfl; apply Tri.op; rfl; apply o_lss; rfl; rfl; rfl; apply Tri.op; rfl; apply o_move; rfl; rfl)
  ((with_reducible apply Tri.casesB 6); (case h => rfl); (all_goals intro h1))
  · exact absurd (of_decide_eq_true h1) (by omega)
  · (apply Tri.opYes; rfl; rfl; rfl; apply o_move; rfl; rfl; apply Tri.opYes; rfl; rfl; rfl; apply o_gtr; rfl; rfl; rfl; apply Tri.op; rfl; apply o_pickF; (iterate 4 rfl); refine Tri.nil (Tri.thenN ?_))
    (apply Tri.condD; (case hc => rfl); (all_goals intro h2))
    · omega
    · (refine Tri.skip (Tri.thenN (Tri.seq (Tri.region ?_))); apply Tri.op; rfl; apply o_move; rfl; rfl; apply Tri.op; rfl; apply o_mul64; rfl; rfl; rfl; (omega); apply Tri.op; rfl)
      (apply o_make1 (m := k * 256); (case hx => rfl); (case hy => rfl); (case hi => omega); (case hj => omega); (case hb => omega); (case hn => rfl))
      intro a
      (apply Tri.op; rfl)
      (apply o_build; (case hp => (repeat first | exact pev.nil | (apply pev.cons; case a => rfl))); (case hf => rfl); (case hn => rfl))
      (apply Tri.op; rfl)
      (first | (apply o_boxA; (case hx => rfl); (case hn => rfl); intro p) | (apply o_box1; (case hx => rfl); (case h1 => rfl); (case hn => rfl); intro p))
      (apply Tri.op; rfl; apply o_assign; rfl; rfl; apply Tri.op; rfl; apply o_assign; rfl; rfl; refine Tri.nil (Tri.thenN (Tri.ret ?_)))
      have e : (List.replicate (k * 256) (0 : UInt8)).length = k * 256 := List.length_replicate
      ((with_reducible apply Tri.eqA (A := blk p _ _) (B := blk p 132 [.slice (some ⟨a, 0, none⟩) (List.replicate (k * 256) (0 : UInt8)).length (List.replicate (k * 256) (0 : UInt8)).length, .slice none 0 0, .bool false, .int .i64 (-1)])); (case p => (with_reducible repeat constructor)); (case e => (rw [e]; rfl)))
      ((with_reducible apply Tri.eqA (A := blk a _ _) (B := blk a 5 (B8 (List.replicate (k * 256) 0)))); (case p => (with_reducible repeat constructor)); (case e => (rw [B8, List.map_replicate]; rfl)))
      (with_reducible apply Tri.ownNil 139 2)
      ((with_reducible apply Tri.eqA (A := own 139 2 (.slice none 0 0) 0 []) (B := own 139 2 (.slice none 0 0) ([] : List WW).length (WL ([] : List WW)))); (case p => (with_reducible repeat constructor)); (case e => rfl))
      (refine Tri.pure_ (A := manyRd (WT [])) manyRd_nil ?_)
      (apply Tri.fin; (case hr => rfl); (case h => (repeat (first | exact ResL.nil | (apply ResL.cons; (case a => (first | exact Res1.tmp rfl | (apply Res1.cell; rfl; (with_reducible repeat constructor); rfl) | (apply Res1.agg; rfl; (with_reducible repeat constructor); rfl; rfl))))))); (apply fin_R (Hn := [blk p 132 [.slice (some ⟨a, 0, none⟩) (List.replicate (k * 256) (0 : UInt8)).length (List.replicate (k * 256) (0 : UInt8)).length, (.slice none 0 0), .bool false, .int .i64 (-1)], blk a 5 (B8 (List.replicate (k * 256) (0 : UInt8))), own 139 2 (.slice none 0 0) (([] : List WW)).length (WL (([] : List WW))), manyRd (WT (([] : List WW)))])); (case p => (repeat first | with_reducible constructor | constructor)))
      exact ⟨p, a, rfl, rfl⟩

set_option maxHeartbeats 1000000 in
theorem disk_Pages (p a N : Nat) (vw : Value) (off : Bool) (till : Int) (hN : N ≤ 1000000) : Gv.Spec Try.prog 95 #[.pointer (some ⟨p, 0, none⟩)] [blk p 132 [.slice (some ⟨a, 0, none⟩) N N, vw, .bool off, .int .i64 till]]
    (fun r H' => r = .int .i64 ((N / 256 : Nat) : Int) ∧ H' = [blk p 132 [.slice (some ⟨a, 0, none⟩) N N, vw, .bool off, .int .i64 till]]) := by
  refine Gv.Spec.of (fun w h0 hw => ?_)
  refine Calls.enter Try.func95 rfl rfl rfl hw ?_
  simp only [argSlots]
  (try dsimp only [List.cons_append, List.nil_append])
  (refine Tri.seq (Tri.region ?_); apply Tri.op; rfl; apply o_assign; rfl; rfl; refine Tri.nil (Tri.thenN (Tri.seq (Tri.seq (Tri.region ?_)))); apply Tri.op; rfl; apply o_move; rfl; rfl; apply Tri.op; rfl; apply o_eqlN; rfl; rfl; rfl; refine Tri.nil (Tri.thenN ?_))
  ((with_reducible apply Tri.setb 4 (false)); (case h => rfl); (case hi => rfl))
  (apply Tri.condF; rfl; rfl; refine Tri.skip (Tri.thenN (Tri.seq (Tri.region ?_))); apply Tri.op; rfl; apply o_move; rfl; rfl; apply Tri.op; rfl; apply o_nilCheck; rfl; rfl; apply Tri.op; rfl; apply o_fieldAddr; rfl; rfl; apply Tri.op; rfl; apply o_load; rfl; (with_reducible repeat constructor); rfl; rfl; apply Tri.op; rfl; apply o_len; rfl; rfl; apply Tri.op; rfl; apply o_quo; rfl; rfl; rfl; (omega); (omega); apply Tri.op; rfl; apply o_assign; rfl; rfl; refine Tri.nil (Tri.thenN (Tri.ret ?_)))
  (apply Tri.fin; (case hr => rfl); (case h => (repeat (first | exact ResL.nil | (apply ResL.cons; (case a => (first | exact Res1.tmp rfl | (apply Res1.cell; rfl; (with_reducible repeat constructor); rfl) | (apply Res1.agg; rfl; (with_reducible repeat constructor); rfl; rfl))))))); (apply fin_R (Hn := [blk p 132 [.slice (some ⟨a, 0, none⟩) N N, vw, .bool off, .int .i64 till]])); (case p => (repeat first | with_reducible constructor | constructor)))
  exact ⟨by simp only [tupled]; rfl, rfl⟩

end Go.Proofs.Ytckdlfbbkemklaa
end
section
/- Where ways meet again: the code behind a branch is walked once. -/
namespace Go.Gv
open Go Go.RowKit
set_option linter.unusedVariables false

section
variable {P : Program} {w0 : World} {n : NT} {L : Slots} {H R : List Atom} {Q : Exit → Act → World → Prop}
theorem Tri.wpMono {c : Code} {Q1 Q2 : Exit → Act → World → Prop} (hQ : ∀ e a w, Q1 e a w → Q2 e a w) (h : Tri w0 (c.wp P Q1) n L H) : Tri w0 (c.wp P Q2) n L H := fun a w ha hw => by
  intro b kk cs
  obtain ⟨e, a1, w1, hq, harr⟩ := h a w ha hw b kk cs
  exact ⟨e, a1, w1, hQ _ _ _ hq, harr⟩
theorem Tri.seqMeet {α : Type} {c d : Code} (Lx : α → Slots) (Hx : α → List Atom)
    (h : Tri w0 (c.wp P (Exit.then (fun a w => ∃ y, Has a n (Lx y) ∧ St w0 w (Hx y)) Q)) n L H)
    (k : ∀ y, Tri w0 (d.wp P Q) n (Lx y) (Hx y)) : Tri w0 ((Code.seq c d).wp P Q) n L H :=
  Tri.seq (Tri.wpMono (fun e a w hq => by
    cases e with
    | normal => obtain ⟨y, h1, h2⟩ := hq; exact k y a w h1 h2
    | _ => exact hq) h)
theorem Tri.reach {α : Type} {Lx : α → Slots} {Hx : α → List Atom} (y : α) (hL : SubL L (Lx y)) (p : Pulls H (Hx y) R) : Tri w0 (fun a w => ∃ y, Has a n (Lx y) ∧ St w0 w (Hx y)) n L H := fun a w ha hw =>
  ⟨y, ha.sub hL, (hw.pulls p).1, Sat.left (hw.pulls p).2⟩
end
end Go.Gv
end
