import Derived.Test.YtoldjgmcoekchaaGreatDoorWf
import Derived.Test.YtoldjgmcoekchaaGreatDoorRows
set_option linter.all false
set_option maxHeartbeats 16000000
set_option maxRecDepth 100000
namespace Go.Proofs.YtoldjgmcoekchaaGreatDoor
open Go.V
instance:Mixed Tryz.prog:=⟨by kernel_rfl⟩
set_option maxRecDepth 100000
instance:One Tryz.prog 2:=⟨by kernel_rfl⟩
instance:IntTy Tryz.prog 3 .i64:=⟨by kernel_rfl⟩
instance:One Tryz.prog 5:=⟨by kernel_rfl⟩
instance:IntTy Tryz.prog 5 .u8:=⟨by kernel_rfl⟩
instance:One Tryz.prog 30:=⟨by kernel_rfl⟩
instance:IntTy Tryz.prog 30 .u64:=⟨by kernel_rfl⟩
instance:SliceTy Tryz.prog 31 27 32 32:=⟨by kernel_rfl⟩
instance:One Tryz.prog 32:=⟨by kernel_rfl⟩
instance:SliceTy Tryz.prog 32 5 1 1:=⟨by kernel_rfl⟩
instance:One Tryz.prog 37:=⟨by kernel_rfl⟩
instance:One Tryz.prog 41:=⟨by kernel_rfl⟩
instance:SliceTy Tryz.prog 41 93 2 48:=⟨by kernel_rfl⟩
instance:Agg Tryz.prog 44 3:=⟨by kernel_rfl⟩
instance:Zero Tryz.prog 44 (.agg #[.slice none 0 0,.slice none 0 0,.slice none 0 0]):=⟨by kernel_rfl⟩
instance:Places Tryz.prog 44 [(0,1),(1,1),(2,1)]:=⟨by kernel_rfl⟩
instance:FieldAt Tryz.prog 44 0 0:=⟨by kernel_rfl⟩
instance:One Tryz.prog 47:=⟨by kernel_rfl⟩
instance:Zero Tryz.prog 47 (.int .i64 0):=⟨by kernel_rfl⟩
instance:Agg Tryz.prog 51 3:=⟨by kernel_rfl⟩
instance:Zero Tryz.prog 51 (.agg #[.int .i64 0,.slice none 0 0,.slice none 0 0]):=⟨by kernel_rfl⟩
instance:Places Tryz.prog 51 [(0,1),(1,1),(2,1)]:=⟨by kernel_rfl⟩
instance:Agg Tryz.prog 60 4:=⟨by kernel_rfl⟩
instance:FieldAt Tryz.prog 60 0 0:=⟨by kernel_rfl⟩
instance:FieldAt Tryz.prog 60 1 1:=⟨by kernel_rfl⟩
instance:SliceTy Tryz.prog 70 3 1 8:=⟨by kernel_rfl⟩
instance:Agg Tryz.prog 139 8:=⟨by kernel_rfl⟩
instance:Zero Tryz.prog 139 (.agg #[.int .u64 0,.int .u64 0,.int .u64 0,.int .u64 0,.int .u64 0,.int .u64 0,.int .u64 0,.int .u64 0]):=⟨by kernel_rfl⟩
instance:ArrTy Tryz.prog 139 8 30 1:=⟨by kernel_rfl⟩
instance:IntTy Tryz.prog 198 .u64:=⟨by kernel_rfl⟩
instance:Agg Tryz.prog 269 32:=⟨by kernel_rfl⟩
instance:Zero Tryz.prog 269 (.agg #[.int .u8 0,.int .u8 0,.int .u8 0,.int .u8 0,.int .u8 0,.int .u8 0,.int .u8 0,.int .u8 0,.int .u8 0,.int .u8 0,.int .u8 0,.int .u8 0,.int .u8 0,.int .u8 0,.int .u8 0,.int .u8 0,.int .u8 0,.int .u8 0,.int .u8 0,.int .u8 0,.int .u8 0,.int .u8 0,.int .u8 0,.int .u8 0,.int .u8 0,.int .u8 0,.int .u8 0,.int .u8 0,.int .u8 0,.int .u8 0,.int .u8 0,.int .u8 0]):=⟨by kernel_rfl⟩
instance:ArrTy Tryz.prog 269 32 5 1:=⟨by kernel_rfl⟩
instance:Agg Tryz.prog 293 80:=⟨by kernel_rfl⟩
instance:ArrTy Tryz.prog 293 80 30 1:=⟨by kernel_rfl⟩
instance:Agg Tryz.prog 336 4:=⟨by kernel_rfl⟩
instance:Zero Tryz.prog 336 (.agg #[.int .u64 0,.int .u64 0,.int .u64 0,.int .u64 0]):=⟨by kernel_rfl⟩
instance:ArrTy Tryz.prog 336 4 30 1:=⟨by kernel_rfl⟩
instance:Agg Tryz.prog 354 128:=⟨by kernel_rfl⟩
instance:ArrTy Tryz.prog 354 128 5 1:=⟨by kernel_rfl⟩
instance:Agg Tryz.prog 391 10:=⟨by kernel_rfl⟩
instance:Zero Tryz.prog 391 (.agg #[.int .i64 0,.int .i64 0,.int .i64 0,.int .i64 0,.int .i64 0,.int .i64 0,.int .i64 0,.int .i64 0,.int .i64 0,.int .i64 0]):=⟨by kernel_rfl⟩
instance:ArrTy Tryz.prog 391 10 2 1:=⟨by kernel_rfl⟩
instance:Agg Tryz.prog 406 5:=⟨by kernel_rfl⟩
instance:Zero Tryz.prog 406 (.agg #[.int .u64 0,.int .u64 0,.int .u64 0,.int .u64 0,.int .u64 0]):=⟨by kernel_rfl⟩
instance:ArrTy Tryz.prog 406 5 30 1:=⟨by kernel_rfl⟩
instance:Agg Tryz.prog 447 2:=⟨by kernel_rfl⟩
instance:Zero Tryz.prog 447 (.agg #[.int .u64 0,.int .u64 0]):=⟨by kernel_rfl⟩
instance:Places Tryz.prog 447 [(0,1),(1,1)]:=⟨by kernel_rfl⟩
instance:FieldAt Tryz.prog 447 0 0:=⟨by kernel_rfl⟩
instance:FieldAt Tryz.prog 447 1 1:=⟨by kernel_rfl⟩
instance:FnOk Tryz.prog 10:=⟨by kernel_rfl⟩
instance:FnOk Tryz.prog 12:=⟨by kernel_rfl⟩
instance:FnOk Tryz.prog 13:=⟨by kernel_rfl⟩
instance:FnOk Tryz.prog 14:=⟨by kernel_rfl⟩
instance:FnOk Tryz.prog 16:=⟨by kernel_rfl⟩
instance:FnOk Tryz.prog 17:=⟨by kernel_rfl⟩
instance:FnOk Tryz.prog 18:=⟨by kernel_rfl⟩
instance:FnOk Tryz.prog 19:=⟨by kernel_rfl⟩
instance:FnOk Tryz.prog 20:=⟨by kernel_rfl⟩
instance:FnOk Tryz.prog 21:=⟨by kernel_rfl⟩
instance:FnOk Tryz.prog 22:=⟨by kernel_rfl⟩
instance:FnOk Tryz.prog 23:=⟨by kernel_rfl⟩
instance:FnOk Tryz.prog 24:=⟨by kernel_rfl⟩
instance:FnOk Tryz.prog 25:=⟨by kernel_rfl⟩
instance:FnOk Tryz.prog 26:=⟨by kernel_rfl⟩
instance:FnOk Tryz.prog 39:=⟨by kernel_rfl⟩
instance:FnOk Tryz.prog 183:=⟨by kernel_rfl⟩
instance:FnOk Tryz.prog 184:=⟨by kernel_rfl⟩
instance:FnOk Tryz.prog 323:=⟨by kernel_rfl⟩
instance:FnOk Tryz.prog 324:=⟨by kernel_rfl⟩
instance:FnOk Tryz.prog 328:=⟨by kernel_rfl⟩
instance:FnOk Tryz.prog 329:=⟨by kernel_rfl⟩
instance:FnOk Tryz.prog 330:=⟨by kernel_rfl⟩
instance:FnOk Tryz.prog 331:=⟨by kernel_rfl⟩
instance:FnOk Tryz.prog 341:=⟨by kernel_rfl⟩
instance:FnOk Tryz.prog 342:=⟨by kernel_rfl⟩
instance:FnOk Tryz.prog 343:=⟨by kernel_rfl⟩
instance:FnOk Tryz.prog 344:=⟨by kernel_rfl⟩
instance:FnOk Tryz.prog 370:=⟨by kernel_rfl⟩
instance:FnOk Tryz.prog 371:=⟨by kernel_rfl⟩
instance:FnOk Tryz.prog 376:=⟨by kernel_rfl⟩
instance:FnOk Tryz.prog 377:=⟨by kernel_rfl⟩
instance:FnOk Tryz.prog 378:=⟨by kernel_rfl⟩
instance:FnOk Tryz.prog 379:=⟨by kernel_rfl⟩
instance:FnOk Tryz.prog 380:=⟨by kernel_rfl⟩
instance:ExtFn Tryz.prog 406 "math/bits.Add64":=⟨_,rfl,rfl,rfl,by kernel_rfl,by kernel_rfl⟩
end Go.Proofs.YtoldjgmcoekchaaGreatDoor
