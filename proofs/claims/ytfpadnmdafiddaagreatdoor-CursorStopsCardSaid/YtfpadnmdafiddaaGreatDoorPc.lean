import Derived.Test.YtfpadnmdafiddaaGreatDoorP0
import Derived.Test.YtfpadnmdafiddaaGreatDoorPb
import Derived.Test.YtfpadnmdafiddaaGreatDoorProg
import Derived.KernelRfl
import Derived.RowKit
import GoSem.Claim
import Derived.LaidEql
set_option linter.all false
set_option maxHeartbeats 16000000
set_option maxRecDepth 100000
namespace Go.Proofs.YtfpadnmdafiddaaGreatDoor
open Go.V
instance:Mixed Tryz.prog:=⟨kR⟩
set_option maxRecDepth 100000
instance:One Tryz.prog 3:=⟨kR⟩
instance:Zero Tryz.prog 3 (.int .i64 0):=⟨kR⟩
instance:IntTy Tryz.prog 3 .i64:=⟨kR⟩
instance:One Tryz.prog 4:=⟨kR⟩
instance:Zero Tryz.prog 4 (.bool false):=⟨kR⟩
instance:One Tryz.prog 5:=⟨kR⟩
instance:Zero Tryz.prog 5 (.int .u8 0):=⟨kR⟩
instance:IntTy Tryz.prog 5 .u8:=⟨kR⟩
instance:StrTy Tryz.prog 9:=⟨kR⟩
instance:One Tryz.prog 25:=⟨kR⟩
instance:One Tryz.prog 29:=⟨kR⟩
instance:Zero Tryz.prog 29 (.slice none 0 0):=⟨kR⟩
instance:SliceTy Tryz.prog 29 30 1 24:=⟨kR⟩
instance:One Tryz.prog 30:=⟨kR⟩
instance:Zero Tryz.prog 30 (.slice none 0 0):=⟨kR⟩
instance:SliceTy Tryz.prog 30 5 1 1:=⟨kR⟩
instance:One Tryz.prog 37:=⟨kR⟩
instance:Zero Tryz.prog 37 (.int .i64 0):=⟨kR⟩
instance:One Tryz.prog 43:=⟨kR⟩
instance:Zero Tryz.prog 43 (.slice none 0 0):=⟨kR⟩
instance:SliceTy Tryz.prog 43 3 1 8:=⟨kR⟩
instance:One Tryz.prog 54:=⟨kR⟩
instance:Zero Tryz.prog 54 (.slice none 0 0):=⟨kR⟩
instance:SliceTy Tryz.prog 54 58 2 48:=⟨kR⟩
instance:Agg Tryz.prog 58 2:=⟨kR⟩
instance:Zero Tryz.prog 58 (.agg #[.slice none 0 0,.slice none 0 0]):=⟨kR⟩
instance:Places Tryz.prog 58 [(0,1),(1,1)]:=⟨kR⟩
instance:FieldAt Tryz.prog 58 0 0:=⟨kR⟩
instance:FieldAt Tryz.prog 58 1 1:=⟨kR⟩
instance:One Tryz.prog 62:=⟨kR⟩
instance:Agg Tryz.prog 79 3:=⟨kR⟩
instance:Zero Tryz.prog 79 (.agg #[.slice none 0 0,.slice none 0 0,.slice none 0 0]):=⟨kR⟩
instance:Places Tryz.prog 79 [(0,1),(1,1),(2,1)]:=⟨kR⟩
instance:FieldAt Tryz.prog 79 0 0:=⟨kR⟩
instance:FieldAt Tryz.prog 79 1 1:=⟨kR⟩
instance:FieldAt Tryz.prog 79 2 2:=⟨kR⟩
instance:Agg Tryz.prog 92 4:=⟨kR⟩
instance:Zero Tryz.prog 92 (.agg #[.slice none 0 0,.slice none 0 0,.bool false,.int .i64 0]):=⟨kR⟩
instance:Places Tryz.prog 92 [(0,1),(1,1),(2,1),(3,1)]:=⟨kR⟩
instance:FieldAt Tryz.prog 92 0 0:=⟨kR⟩
instance:FieldAt Tryz.prog 92 1 1:=⟨kR⟩
instance:FieldAt Tryz.prog 92 2 2:=⟨kR⟩
instance:FieldAt Tryz.prog 92 3 3:=⟨kR⟩
instance:One Tryz.prog 97:=⟨kR⟩
instance:One Tryz.prog 118:=⟨kR⟩
instance:One Tryz.prog 136:=⟨kR⟩
instance:SliceTy Tryz.prog 136 143 4 80:=⟨kR⟩
instance:Agg Tryz.prog 143 4:=⟨kR⟩
instance:Zero Tryz.prog 143 (.agg #[.slice none 0 0,.slice none 0 0,.slice none 0 0,.int .i64 0]):=⟨kR⟩
instance:Places Tryz.prog 143 [(0,3),(3,1)]:=⟨kR⟩
instance:FieldAt Tryz.prog 143 0 0:=⟨kR⟩
instance:FieldAt Tryz.prog 143 1 3:=⟨kR⟩
instance:One Tryz.prog 148:=⟨kR⟩
instance:SliceTy Tryz.prog 148 168 1 8:=⟨kR⟩
instance:Zero Tryz.prog 150 (.agg #[.pointer none,.pointer none,.int .i64 0,.slice none 0 0]):=⟨kR⟩
instance:Places Tryz.prog 150 [(0,1),(1,1),(2,1),(3,1)]:=⟨kR⟩
instance:FieldAt Tryz.prog 150 0 0:=⟨kR⟩
instance:FieldAt Tryz.prog 150 1 1:=⟨kR⟩
instance:FieldAt Tryz.prog 150 2 2:=⟨kR⟩
instance:FieldAt Tryz.prog 150 3 3:=⟨kR⟩
instance:One Tryz.prog 152:=⟨kR⟩
instance:One Tryz.prog 168:=⟨kR⟩
instance:Zero Tryz.prog 168 (.int .u64 0):=⟨kR⟩
instance:IntTy Tryz.prog 168 .u64:=⟨kR⟩
instance:Zero Tryz.prog 171 (.agg #[.slice none 0 0,.slice none 0 0]):=⟨kR⟩
instance:Places Tryz.prog 171 [(0,1),(1,1)]:=⟨kR⟩
instance:FieldAt Tryz.prog 171 1 1:=⟨kR⟩
instance:One Tryz.prog 172:=⟨kR⟩
instance:SliceTy Tryz.prog 172 4 1 1:=⟨kR⟩
instance:Zero Tryz.prog 174 (.agg #[.pointer none,.slice none 0 0]):=⟨kR⟩
instance:Places Tryz.prog 174 [(0,1),(1,1)]:=⟨kR⟩
instance:FieldAt Tryz.prog 174 0 0:=⟨kR⟩
instance:FieldAt Tryz.prog 174 1 1:=⟨kR⟩
instance:One Tryz.prog 175:=⟨kR⟩
instance:SliceTy Tryz.prog 175 79 3 72:=⟨kR⟩
instance:Agg Tryz.prog 177 2:=⟨kR⟩
instance:Zero Tryz.prog 177 (.agg #[.slice none 0 0,.slice none 0 0]):=⟨kR⟩
instance:FieldAt Tryz.prog 177 0 0:=⟨kR⟩
instance:FieldAt Tryz.prog 177 1 1:=⟨kR⟩
instance:Zero Tryz.prog 191 (.agg #[.slice none 0 0,.slice none 0 0,.int .i64 0]):=⟨kR⟩
instance:Places Tryz.prog 191 [(0,1),(1,1),(2,1)]:=⟨kR⟩
instance:FieldAt Tryz.prog 191 0 0:=⟨kR⟩
instance:FieldAt Tryz.prog 191 1 1:=⟨kR⟩
instance:FieldAt Tryz.prog 191 2 2:=⟨kR⟩
instance:IntTy Tryz.prog 196 .u64:=⟨kR⟩
instance:Agg Tryz.prog 197 512:=⟨kR⟩
instance:ArrTy Tryz.prog 197 512 5 1:=⟨kR⟩
instance:One Tryz.prog 204:=⟨kR⟩
instance:SliceTy Tryz.prog 204 254 4 80:=⟨kR⟩
instance:Zero Tryz.prog 206 (.agg #[.pointer none,.pointer none,.int .i64 0,.slice none 0 0,.slice none 0 0,.bool false,.int .i64 0,.int .i64 0,.slice none 0 0]):=⟨kR⟩
instance:Places Tryz.prog 206 [(0,1),(1,1),(2,1),(3,4),(7,1),(8,1)]:=⟨kR⟩
instance:FieldAt Tryz.prog 206 0 0:=⟨kR⟩
instance:FieldAt Tryz.prog 206 1 1:=⟨kR⟩
instance:FieldAt Tryz.prog 206 2 2:=⟨kR⟩
instance:FieldAt Tryz.prog 206 3 3:=⟨kR⟩
instance:FieldAt Tryz.prog 206 4 7:=⟨kR⟩
instance:FieldAt Tryz.prog 206 5 8:=⟨kR⟩
instance:One Tryz.prog 215:=⟨kR⟩
instance:SliceTy Tryz.prog 215 247 256 256:=⟨kR⟩
instance:One Tryz.prog 224:=⟨kR⟩
instance:Zero Tryz.prog 226 (.agg #[.pointer none,.map none]):=⟨kR⟩
instance:Places Tryz.prog 226 [(0,1),(1,1)]:=⟨kR⟩
instance:FieldAt Tryz.prog 226 0 0:=⟨kR⟩
instance:FieldAt Tryz.prog 226 1 1:=⟨kR⟩
instance:Agg Tryz.prog 228 6:=⟨kR⟩
instance:Zero Tryz.prog 228 (.agg #[.slice none 0 0,.slice none 0 0,.slice none 0 0,.int .i64 0,.slice none 0 0,.slice none 0 0]):=⟨kR⟩
instance:Places Tryz.prog 228 [(0,3),(3,1),(4,1),(5,1)]:=⟨kR⟩
instance:FieldAt Tryz.prog 228 0 0:=⟨kR⟩
instance:FieldAt Tryz.prog 228 1 3:=⟨kR⟩
instance:FieldAt Tryz.prog 228 2 4:=⟨kR⟩
instance:FieldAt Tryz.prog 228 3 5:=⟨kR⟩
instance:Agg Tryz.prog 238 64:=⟨kR⟩
instance:ArrTy Tryz.prog 238 64 5 1:=⟨kR⟩
instance:Agg Tryz.prog 243 32:=⟨kR⟩
instance:ArrTy Tryz.prog 243 32 5 1:=⟨kR⟩
instance:Agg Tryz.prog 247 256:=⟨kR⟩
instance:ArrTy Tryz.prog 247 256 5 1:=⟨kR⟩
instance:One Tryz.prog 248:=⟨kR⟩
instance:Zero Tryz.prog 250 (.agg #[.pointer none,.slice none 0 0,.map none]):=⟨kR⟩
instance:Places Tryz.prog 250 [(0,1),(1,1),(2,1)]:=⟨kR⟩
instance:FieldAt Tryz.prog 250 0 0:=⟨kR⟩
instance:FieldAt Tryz.prog 250 1 1:=⟨kR⟩
instance:FieldAt Tryz.prog 250 2 2:=⟨kR⟩
instance:Agg Tryz.prog 254 4:=⟨kR⟩
instance:Zero Tryz.prog 254 (.agg #[.slice none 0 0,.slice none 0 0,.slice none 0 0,.int .i64 0]):=⟨kR⟩
instance:Places Tryz.prog 254 [(0,3),(3,1)]:=⟨kR⟩
instance:FieldAt Tryz.prog 254 0 0:=⟨kR⟩
instance:FieldAt Tryz.prog 254 1 3:=⟨kR⟩
instance:Agg Tryz.prog 269 2:=⟨kR⟩
instance:Zero Tryz.prog 269 (.agg #[.slice none 0 0,.slice none 0 0]):=⟨kR⟩
instance:Places Tryz.prog 269 [(0,1),(1,1)]:=⟨kR⟩
instance:FieldAt Tryz.prog 269 0 0:=⟨kR⟩
instance:FieldAt Tryz.prog 269 1 1:=⟨kR⟩
instance:Agg Tryz.prog 271 3:=⟨kR⟩
instance:Zero Tryz.prog 271 (.agg #[.slice none 0 0,.slice none 0 0,.slice none 0 0]):=⟨kR⟩
instance:Places Tryz.prog 271 [(0,1),(1,1),(2,1)]:=⟨kR⟩
instance:FieldAt Tryz.prog 271 0 0:=⟨kR⟩
instance:FieldAt Tryz.prog 271 1 1:=⟨kR⟩
instance:FieldAt Tryz.prog 271 2 2:=⟨kR⟩
instance:SliceTy Tryz.prog 272 54 1 24:=⟨kR⟩
instance:SliceTy Tryz.prog 283 43 1 24:=⟨kR⟩
instance:SliceTy Tryz.prog 284 29 1 24:=⟨kR⟩
instance:Zero Tryz.prog 289 (.agg #[.slice none 0 0,.int .i64 0]):=⟨kR⟩
instance:Places Tryz.prog 289 [(0,1),(1,1)]:=⟨kR⟩
instance:FieldAt Tryz.prog 289 0 0:=⟨kR⟩
instance:FieldAt Tryz.prog 289 1 1:=⟨kR⟩
instance:Agg Tryz.prog 295 8:=⟨kR⟩
instance:Zero Tryz.prog 295 (.agg #[.int .u64 0,.int .u64 0,.int .u64 0,.int .u64 0,.int .u64 0,.int .u64 0,.int .u64 0,.int .u64 0]):=⟨kR⟩
instance:ArrTy Tryz.prog 295 8 168 1:=⟨kR⟩
instance:One Tryz.prog 302:=⟨kR⟩
instance:Agg Tryz.prog 327 128:=⟨kR⟩
instance:ArrTy Tryz.prog 327 128 5 1:=⟨kR⟩
instance:Zero Tryz.prog 329 (.agg #[.pointer none,.slice none 0 0,.int .i64 0,.int .i64 0]):=⟨kR⟩
instance:Places Tryz.prog 329 [(0,1),(1,1),(2,1),(3,1)]:=⟨kR⟩
instance:FieldAt Tryz.prog 329 0 0:=⟨kR⟩
instance:FieldAt Tryz.prog 329 1 1:=⟨kR⟩
instance:FieldAt Tryz.prog 329 2 2:=⟨kR⟩
instance:FieldAt Tryz.prog 329 3 3:=⟨kR⟩
instance:Zero Tryz.prog 339 (.agg #[.int .u64 0,.int .u64 0]):=⟨kR⟩
instance:ArrTy Tryz.prog 339 2 168 1:=⟨kR⟩
instance:Agg Tryz.prog 340 80:=⟨kR⟩
instance:ArrTy Tryz.prog 340 80 168 1:=⟨kR⟩
instance:FnOk Tryz.prog 18:=⟨kR⟩
instance:FnOk Tryz.prog 20:=⟨kR⟩
instance:FnOk Tryz.prog 21:=⟨kR⟩
instance:FnOk Tryz.prog 23:=⟨kR⟩
instance:FnOk Tryz.prog 25:=⟨kR⟩
instance:FnOk Tryz.prog 31:=⟨kR⟩
instance:FnOk Tryz.prog 32:=⟨kR⟩
instance:FnOk Tryz.prog 35:=⟨kR⟩
instance:FnOk Tryz.prog 36:=⟨kR⟩
instance:FnOk Tryz.prog 37:=⟨kR⟩
instance:FnOk Tryz.prog 38:=⟨kR⟩
instance:FnOk Tryz.prog 41:=⟨kR⟩
instance:FnOk Tryz.prog 45:=⟨kR⟩
instance:FnOk Tryz.prog 46:=⟨kR⟩
instance:FnOk Tryz.prog 50:=⟨kR⟩
instance:FnOk Tryz.prog 51:=⟨kR⟩
instance:FnOk Tryz.prog 52:=⟨kR⟩
instance:FnOk Tryz.prog 53:=⟨kR⟩
instance:FnOk Tryz.prog 54:=⟨kR⟩
instance:FnOk Tryz.prog 55:=⟨kR⟩
instance:FnOk Tryz.prog 56:=⟨kR⟩
instance:FnOk Tryz.prog 57:=⟨kR⟩
instance:FnOk Tryz.prog 59:=⟨kR⟩
instance:FnOk Tryz.prog 67:=⟨kR⟩
instance:FnOk Tryz.prog 68:=⟨kR⟩
instance:FnOk Tryz.prog 77:=⟨kR⟩
instance:FnOk Tryz.prog 78:=⟨kR⟩
instance:FnOk Tryz.prog 79:=⟨kR⟩
instance:FnOk Tryz.prog 80:=⟨kR⟩
instance:FnOk Tryz.prog 81:=⟨kR⟩
instance:FnOk Tryz.prog 83:=⟨kR⟩
instance:FnOk Tryz.prog 84:=⟨kR⟩
instance:FnOk Tryz.prog 85:=⟨kR⟩
instance:FnOk Tryz.prog 86:=⟨kR⟩
instance:FnOk Tryz.prog 87:=⟨kR⟩
instance:FnOk Tryz.prog 88:=⟨kR⟩
instance:FnOk Tryz.prog 91:=⟨kR⟩
instance:FnOk Tryz.prog 92:=⟨kR⟩
instance:FnOk Tryz.prog 93:=⟨kR⟩
instance:FnOk Tryz.prog 94:=⟨kR⟩
instance:FnOk Tryz.prog 95:=⟨kR⟩
instance:FnOk Tryz.prog 96:=⟨kR⟩
instance:FnOk Tryz.prog 97:=⟨kR⟩
instance:FnOk Tryz.prog 98:=⟨kR⟩
instance:FnOk Tryz.prog 99:=⟨kR⟩
instance:FnOk Tryz.prog 100:=⟨kR⟩
instance:FnOk Tryz.prog 102:=⟨kR⟩
instance:FnOk Tryz.prog 103:=⟨kR⟩
instance:FnOk Tryz.prog 104:=⟨kR⟩
instance:FnOk Tryz.prog 105:=⟨kR⟩
instance:FnOk Tryz.prog 106:=⟨kR⟩
instance:FnOk Tryz.prog 107:=⟨kR⟩
instance:FnOk Tryz.prog 108:=⟨kR⟩
instance:FnOk Tryz.prog 109:=⟨kR⟩
instance:FnOk Tryz.prog 110:=⟨kR⟩
instance:FnOk Tryz.prog 111:=⟨kR⟩
instance:FnOk Tryz.prog 113:=⟨kR⟩
instance:FnOk Tryz.prog 114:=⟨kR⟩
instance:FnOk Tryz.prog 115:=⟨kR⟩
instance:FnOk Tryz.prog 116:=⟨kR⟩
instance:FnOk Tryz.prog 117:=⟨kR⟩
instance:FnOk Tryz.prog 118:=⟨kR⟩
instance:FnOk Tryz.prog 119:=⟨kR⟩
instance:FnOk Tryz.prog 120:=⟨kR⟩
instance:FnOk Tryz.prog 121:=⟨kR⟩
instance:FnOk Tryz.prog 122:=⟨kR⟩
instance:FnOk Tryz.prog 123:=⟨kR⟩
instance:FnOk Tryz.prog 124:=⟨kR⟩
instance:FnOk Tryz.prog 125:=⟨kR⟩
instance:FnOk Tryz.prog 126:=⟨kR⟩
instance:FnOk Tryz.prog 127:=⟨kR⟩
instance:FnOk Tryz.prog 128:=⟨kR⟩
instance:FnOk Tryz.prog 129:=⟨kR⟩
instance:FnOk Tryz.prog 130:=⟨kR⟩
instance:FnOk Tryz.prog 131:=⟨kR⟩
instance:FnOk Tryz.prog 132:=⟨kR⟩
instance:FnOk Tryz.prog 133:=⟨kR⟩
instance:FnOk Tryz.prog 134:=⟨kR⟩
instance:FnOk Tryz.prog 135:=⟨kR⟩
instance:FnOk Tryz.prog 136:=⟨kR⟩
instance:FnOk Tryz.prog 137:=⟨kR⟩
instance:FnOk Tryz.prog 139:=⟨kR⟩
instance:FnOk Tryz.prog 140:=⟨kR⟩
instance:FnOk Tryz.prog 141:=⟨kR⟩
instance:FnOk Tryz.prog 142:=⟨kR⟩
instance:FnOk Tryz.prog 148:=⟨kR⟩
instance:FnOk Tryz.prog 149:=⟨kR⟩
instance:FnOk Tryz.prog 150:=⟨kR⟩
instance:FnOk Tryz.prog 151:=⟨kR⟩
instance:FnOk Tryz.prog 152:=⟨kR⟩
instance:FnOk Tryz.prog 154:=⟨kR⟩
instance:FnOk Tryz.prog 155:=⟨kR⟩
instance:FnOk Tryz.prog 156:=⟨kR⟩
instance:FnOk Tryz.prog 160:=⟨kR⟩
instance:FnOk Tryz.prog 161:=⟨kR⟩
instance:FnOk Tryz.prog 162:=⟨kR⟩
instance:FnOk Tryz.prog 163:=⟨kR⟩
instance:FnOk Tryz.prog 164:=⟨kR⟩
instance:FnOk Tryz.prog 165:=⟨kR⟩
instance:FnOk Tryz.prog 166:=⟨kR⟩
instance:FnOk Tryz.prog 167:=⟨kR⟩
instance:FnOk Tryz.prog 168:=⟨kR⟩
instance:FnOk Tryz.prog 169:=⟨kR⟩
instance:FnOk Tryz.prog 170:=⟨kR⟩
instance:FnOk Tryz.prog 171:=⟨kR⟩
instance:FnOk Tryz.prog 172:=⟨kR⟩
instance:FnOk Tryz.prog 173:=⟨kR⟩
instance:FnOk Tryz.prog 174:=⟨kR⟩
instance:FnOk Tryz.prog 175:=⟨kR⟩
instance:FnOk Tryz.prog 176:=⟨kR⟩
instance:FnOk Tryz.prog 177:=⟨kR⟩
instance:FnOk Tryz.prog 178:=⟨kR⟩
instance:FnOk Tryz.prog 179:=⟨kR⟩
instance:FnOk Tryz.prog 180:=⟨kR⟩
instance:FnOk Tryz.prog 182:=⟨kR⟩
instance:FnOk Tryz.prog 183:=⟨kR⟩
instance:FnOk Tryz.prog 184:=⟨kR⟩
instance:FnOk Tryz.prog 188:=⟨kR⟩
instance:FnOk Tryz.prog 189:=⟨kR⟩
instance:FnOk Tryz.prog 190:=⟨kR⟩
instance:FnOk Tryz.prog 194:=⟨kR⟩
instance:FnOk Tryz.prog 195:=⟨kR⟩
instance:FnOk Tryz.prog 196:=⟨kR⟩
instance:FnOk Tryz.prog 201:=⟨kR⟩
instance:FnOk Tryz.prog 202:=⟨kR⟩
instance:FnOk Tryz.prog 203:=⟨kR⟩
instance:FnOk Tryz.prog 204:=⟨kR⟩
instance:FnOk Tryz.prog 205:=⟨kR⟩
instance:FnOk Tryz.prog 206:=⟨kR⟩
instance:FnOk Tryz.prog 207:=⟨kR⟩
instance:FnOk Tryz.prog 208:=⟨kR⟩
instance:FnOk Tryz.prog 209:=⟨kR⟩
instance:FnOk Tryz.prog 210:=⟨kR⟩
instance:FnOk Tryz.prog 211:=⟨kR⟩
instance:FnOk Tryz.prog 212:=⟨kR⟩
instance:FnOk Tryz.prog 213:=⟨kR⟩
instance:FnOk Tryz.prog 214:=⟨kR⟩
instance:FnOk Tryz.prog 215:=⟨kR⟩
instance:FnOk Tryz.prog 216:=⟨kR⟩
instance:FnOk Tryz.prog 217:=⟨kR⟩
instance:FnOk Tryz.prog 218:=⟨kR⟩
instance:FnOk Tryz.prog 219:=⟨kR⟩
instance:FnOk Tryz.prog 220:=⟨kR⟩
instance:FnOk Tryz.prog 221:=⟨kR⟩
instance:FnOk Tryz.prog 222:=⟨kR⟩
instance:FnOk Tryz.prog 223:=⟨kR⟩
instance:FnOk Tryz.prog 224:=⟨kR⟩
instance:FnOk Tryz.prog 225:=⟨kR⟩
instance:FnOk Tryz.prog 226:=⟨kR⟩
instance:FnOk Tryz.prog 227:=⟨kR⟩
instance:FnOk Tryz.prog 228:=⟨kR⟩
instance:FnOk Tryz.prog 229:=⟨kR⟩
instance:FnOk Tryz.prog 231:=⟨kR⟩
instance:FnOk Tryz.prog 232:=⟨kR⟩
instance:FnOk Tryz.prog 233:=⟨kR⟩
instance:FnOk Tryz.prog 244:=⟨kR⟩
instance:FnOk Tryz.prog 245:=⟨kR⟩
instance:FnOk Tryz.prog 246:=⟨kR⟩
instance:FnOk Tryz.prog 247:=⟨kR⟩
instance:FnOk Tryz.prog 248:=⟨kR⟩
instance:FnOk Tryz.prog 249:=⟨kR⟩
instance:FnOk Tryz.prog 250:=⟨kR⟩
instance:FnOk Tryz.prog 251:=⟨kR⟩
instance:FnOk Tryz.prog 252:=⟨kR⟩
instance:FnOk Tryz.prog 253:=⟨kR⟩
instance:FnOk Tryz.prog 254:=⟨kR⟩
instance:FnOk Tryz.prog 255:=⟨kR⟩
instance:FnOk Tryz.prog 256:=⟨kR⟩
instance:FnOk Tryz.prog 257:=⟨kR⟩
instance:FnOk Tryz.prog 258:=⟨kR⟩
instance:FnOk Tryz.prog 259:=⟨kR⟩
instance:FnOk Tryz.prog 265:=⟨kR⟩
instance:FnOk Tryz.prog 266:=⟨kR⟩
instance:FnOk Tryz.prog 267:=⟨kR⟩
instance:FnOk Tryz.prog 268:=⟨kR⟩
instance:FnOk Tryz.prog 269:=⟨kR⟩
instance:FnOk Tryz.prog 270:=⟨kR⟩
instance:FnOk Tryz.prog 271:=⟨kR⟩
instance:FnOk Tryz.prog 272:=⟨kR⟩
instance:FnOk Tryz.prog 273:=⟨kR⟩
instance:FnOk Tryz.prog 275:=⟨kR⟩
instance:FnOk Tryz.prog 291:=⟨kR⟩
instance:FnOk Tryz.prog 292:=⟨kR⟩
instance:FnOk Tryz.prog 293:=⟨kR⟩
instance:FnOk Tryz.prog 294:=⟨kR⟩
end Go.Proofs.YtfpadnmdafiddaaGreatDoor
namespace Go.V
open Go Go.RowKit
section
variable [Rn]
variable {P:Program} {n:Nat} {e:dI} {w:World} {Q:dA} {ops:Array Oper} {rest:List Oper} {d:Nat} {ty:TypeId} {pos:String} {aft:Array Edge}
theorem TL.remU {zx zy:Int} {x y:Operand} {kd:IntKind} {a b:Nat} {t1 t2:TypeId} (hx:val e x=some (.int kd zx)) [ix:Lit zx a] (hy:val e y=some (.int kd zy)) [iy:Lit zy b] (h:0<b) (hd:Nat.blt d n=true)
  (k:TL P n ops rest ((d,.int kd ((a%b:Nat):Int))::e) w Q):TL P n ops (⟨some d,.binOp .rem t1 x y t2,ty,pos,aft,none⟩::rest) e w Q :=
 TL.run (λ r hr=>by
  rw [ix.h] at hx;rw [iy.h] at hy
  have h1:b≠0:=by omega
  have h2:Int.tmod (a:Int) (b:Int)=((a%b:Nat):Int):=rfl
  simp [execOp,binOp,bG,Op.intDiv,hr.eval hx,hr.eval hy,h1,h2]) hd k
theorem TL.isRem {t1 t2:TypeId} {x y:Operand} {d:Option Nat} (h:TL P n ops (⟨d,.binOp .rem t1 x y t2,ty,pos,aft,none⟩::rest) e w Q):TL P n ops (⟨d,.binOp .rem t1 x y t2,ty,pos,aft,none⟩::rest) e w Q:=h
theorem aB (f:Nat) {xs:Array Operand} {a0:Array TypeId} {d:Option Nat} (h:TL P n ops (⟨d,.call ⟨.value (.func f),xs,a0⟩,ty,pos,aft,none⟩::rest) e w Q):TL P n ops (⟨d,.call ⟨.value (.func f),xs,a0⟩,ty,pos,aft,none⟩::rest) e w Q:=h
theorem iR (t1:TypeId) {t2:TypeId} {x y:Operand} {d:Option Nat} (h:TL P n ops (⟨d,.binOp .eql t1 x y t2,ty,pos,aft,none⟩::rest) e w Q):TL P n ops (⟨d,.binOp .eql t1 x y t2,ty,pos,aft,none⟩::rest) e w Q:=h
theorem TL.isNeT (t1:TypeId) {t2:TypeId} {x y:Operand} {d:Option Nat} (h:TL P n ops (⟨d,.binOp .neq t1 x y t2,ty,pos,aft,none⟩::rest) e w Q):TL P n ops (⟨d,.binOp .neq t1 x y t2,ty,pos,aft,none⟩::rest) e w Q:=h
theorem TL.isQuo {t1 t2:TypeId} {x y:Operand} {d:Option Nat} (h:TL P n ops (⟨d,.binOp .quo t1 x y t2,ty,pos,aft,none⟩::rest) e w Q):TL P n ops (⟨d,.binOp .quo t1 x y t2,ty,pos,aft,none⟩::rest) e w Q:=h
end
section
variable [Rn]
variable {P:Program} {n:Nat} {e:dI} {w:World} {Q:dA}
def Upto (P:Program) (n:Nat) (R:dI→World→Prop) (Q:dA):Nat→Code→dI→World→Prop
 | 0,_,e,w=>R e w
 | k+1,.seq a r,e,w=>T P n a e w (λ x e' w'=>match x with
  | .normal=>Upto P n R Q k r e' w'
  | x=>Q x e' w')
 | _+1,_,_,_=>False
def dropC:Nat→Code→Code
 | k+1,.seq _ r=>dropC k r
 | _,c=>c
def uptoQ (P:Program) (n:Nat) (R:dI→World→Prop) (Q:dA) (k:Nat) (r:Code):dA:=λ x e' w' =>
 match x with
 | .normal=>Upto P n R Q k r e' w'
 | x=>Q x e' w'
theorem upto_seq {R:dI→World→Prop} {k:Nat} {a r:Code} (h:T P n a e w (uptoQ P n R Q k r)):Upto P n R Q (k+1) (.seq a r) e w:=h
theorem upto_end {R:dI→World→Prop} {c:Code} (h:R e w):Upto P n R Q 0 c e w:=h
theorem uptoQ_normal {R:dI→World→Prop} {k:Nat} {r:Code} (h:Upto P n R Q k r e w):uptoQ P n R Q k r .normal e w:=h
theorem uptoQ_ret {R:dI→World→Prop} {k:Nat} {r:Code} (h:Q .ret e w):uptoQ P n R Q k r .ret e w:=h
theorem dU {Q:dA} (k:Nat) (R:dI→World→Prop):∀ {c:Code} {e:dI} {w:World},(∀ e' w',R e' w'→T P n (dropC k c) e' w' Q)→Upto P n R Q k c e w→T P n c e w Q:=by
 induction k with
 | zero=>intro c e w h2 h1;exact h2 _ _ h1
 | succ k ih =>
  intro c e w h2 h1
  cases c with
  | seq a r =>
   refine T.seq (T.mono h1 λ x e' w' hx=>?_)
   cases x with
   | normal=>exact eP (ih h2 hx)
   | exit i=>unfold thenQ;exact hx
   | goto l=>unfold thenQ;exact hx
   | ret=>unfold thenQ;exact hx
   | panic ch=>unfold thenQ;exact hx
   | outgrown=>unfold thenQ;exact hx
  | _=>exact h1.elim
end
attribute [irreducible] Upto uptoQ
section
variable [Rn]
variable {P:Program} {n:Nat} {e:dI} {w:World} {Q:dA} {ops:Array Oper} {rest:List Oper} {d:Nat} {ty:TypeId} {pos:String} {aft:Array Edge}
theorem i64_nat {a:Nat} (h:a<9223372036854775808):IntKind.i64.wrap (a:Int)=(a:Int):=IntWalk.i64_in _ ⟨oM,oM⟩
theorem TL.addN {zx zy:Int} {x y:Operand} {a b:Nat} {t1 t2:TypeId} (hx:val e x=some (.int .i64 zx)) [ix:Lit zx a] (hy:val e y=some (.int .i64 zy)) [iy:Lit zy b] (h:a+b<9223372036854775808) (hd:Nat.blt d n=true)
  (k:TL P n ops rest ((d,.int .i64 ((a+b:Nat):Int))::e) w Q):TL P n ops (⟨some d,.binOp .add t1 x y t2,ty,pos,aft,none⟩::rest) e w Q :=
 TL.run (λ r hr=>by
  rw [ix.h] at hx;rw [iy.h] at hy
  have:=i64_nat h;simp only [Int.natCast_add] at this ⊢
  simp [execOp,binOp,bG,Op.intArith,hr.eval hx,hr.eval hy,this]) hd k
theorem TL.subN {zx zy:Int} {x y:Operand} {a b:Nat} {t1 t2:TypeId} (hx:val e x=some (.int .i64 zx)) [ix:Lit zx a] (hy:val e y=some (.int .i64 zy)) [iy:Lit zy b] (h:b≤a) (h2:a<9223372036854775808) (hd:Nat.blt d n=true)
  (k:TL P n ops rest ((d,.int .i64 ((a-b:Nat):Int))::e) w Q):TL P n ops (⟨some d,.binOp .sub t1 x y t2,ty,pos,aft,none⟩::rest) e w Q :=
 TL.run (λ r hr=>by
  rw [ix.h] at hx;rw [iy.h] at hy
  have:=i64_nat (show a-b<9223372036854775808 by omega);rw [Int.ofNat_sub h] at this ⊢
  simp [execOp,binOp,bG,Op.intArith,hr.eval hx,hr.eval hy,this]) hd k
theorem TL.mulN {zx zy:Int} {x y:Operand} {a b:Nat} {t1 t2:TypeId} (hx:val e x=some (.int .i64 zx)) [ix:Lit zx a] (hy:val e y=some (.int .i64 zy)) [iy:Lit zy b] (h:a*b<9223372036854775808) (hd:Nat.blt d n=true)
  (k:TL P n ops rest ((d,.int .i64 ((a*b:Nat):Int))::e) w Q):TL P n ops (⟨some d,.binOp .mul t1 x y t2,ty,pos,aft,none⟩::rest) e w Q :=
 TL.run (λ r hr=>by
  rw [ix.h] at hx;rw [iy.h] at hy
  have:=i64_nat h;simp only [Int.natCast_mul] at this ⊢
  simp [execOp,binOp,bG,Op.intArith,hr.eval hx,hr.eval hy,this]) hd k
theorem TL.quoN {zx zy:Int} {x y:Operand} {a b:Nat} {t1 t2:TypeId} (hx:val e x=some (.int .i64 zx)) [ix:Lit zx a] (hy:val e y=some (.int .i64 zy)) [iy:Lit zy b] (h:0<b) (h2:a<9223372036854775808) (hd:Nat.blt d n=true)
  (k:TL P n ops rest ((d,.int .i64 ((a / b:Nat):Int))::e) w Q):TL P n ops (⟨some d,.binOp .quo t1 x y t2,ty,pos,aft,none⟩::rest) e w Q :=
 TL.run (λ r hr=>by
  rw [ix.h] at hx;rw [iy.h] at hy
  have h1:b≠0:=by omega
  have h3:Int.tdiv (a:Int) (b:Int)=((a / b:Nat):Int):=rfl;have h4:=i64_nat (show a / b<9223372036854775808 from Nat.lt_of_le_of_lt (Nat.div_le_self a b) h2);simp only [execOp,binOp,bG,Op.intDiv,hr.eval hx,hr.eval hy];simp only [h3]
  simp [h1,← Int.natCast_ediv,h4]) hd k
theorem TL.shrS {zx zy:Int} {x y:Operand} {kd ky:IntKind} {a s:Nat} {t1 t2:TypeId} (hx:val e x=some (.int kd zx)) [ix:Lit zx a] (hy:val e y=some (.int ky zy)) [iy:Lit zy s] (hs:s≤kd.bits) (hd:Nat.blt d n=true)
  (k:TL P n ops rest ((d,.int kd ((a / 2^s:Nat):Int))::e) w Q):TL P n ops (⟨some d,.binOp .shr t1 x y t2,ty,pos,aft,none⟩::rest) e w Q :=
 TL.run (λ r hr=>by
  rw [ix.h] at hx;rw [iy.h] at hy
  have h3:min s kd.bits=s:=Nat.min_eq_left hs;have h4:¬ ((s:Int)<0):=by omega
  have e1:(a:Int).fdiv (2^s)=((a / 2^s:Nat):Int):=by
   rw [Int.fdiv_eq_ediv_of_nonneg _ (by exact_mod_cast Nat.zero_le (2^s))];simp
  simp only [execOp,binOp,bG,Op.shift,hr.eval hx,hr.eval hy]
  simp [h3,h4,e1]) hd k
theorem TL.shlS {zx zy:Int} {x y:Operand} {kd ky:IntKind} {M a s:Nat} {t1 t2:TypeId} (hx:val e x=some (.int kd zx)) [ix:Lit zx a] (hy:val e y=some (.int ky zy)) [iy:Lit zy s] (hM:ulim kd=some M) (hs:s≤kd.bits) (h:a*2^s<M) (hd:Nat.blt d n=true)
  (k:TL P n ops rest ((d,.int kd ((a*2^s:Nat):Int))::e) w Q):TL P n ops (⟨some d,.binOp .shl t1 x y t2,ty,pos,aft,none⟩::rest) e w Q :=
 TL.run (λ r hr=>by
  rw [ix.h] at hx;rw [iy.h] at hy
  have h3:min s kd.bits=s:=Nat.min_eq_left hs;have h4:¬ ((s:Int)<0):=by omega
  have e1:(a:Int)*2^s=((a*2^s:Nat):Int):=by simp
  have e2:=eT hM h;rw [← e1] at e2;simp only [execOp,binOp,bG,Op.shift,hr.eval hx,hr.eval hy]
  simp [h3,h4,e2,← e1]) hd k
theorem TL.convN {zx:Int} {s t:TypeId} {x:Operand} {k1 kd:IntKind} {a:Nat} [hs:IntTy P s k1] [ht:IntTy P t .i64] (hx:val e x=some (.int kd zx)) [ix:Lit zx a] (h:a<9223372036854775808) (hd:Nat.blt d n=true)
  (k:TL P n ops rest ((d,.int .i64 (a:Int))::e) w Q):TL P n ops (⟨some d,.convert s t x,ty,pos,aft,none⟩::rest) e w Q :=
 TL.run (λ r hr=>by
  rw [ix.h] at hx
  simp [execOp,hr.eval hx,jB hs ht,i64_nat h]) hd k
theorem TL.indexA1 {t len a0:Nat} {x i:Operand} {b j:Nat} {kd:IntKind} {z:Int} [ht:ArrTy P t len a0 1] (hx:val e x=some (.pointer (some ⟨b,0,none⟩))) (hi:val e i=some (.int kd z))
  [iz:Lit z j] (hj:j<len) (hd:Nat.blt d n=true)
  (k:TL P n ops rest ((d,.pointer (some ⟨b,j,none⟩))::e) w Q):TL P n ops (⟨some d,.indexAddr t x i,ty,pos,aft,none⟩::rest) e w Q :=
 TL.indexArr (o':=j) hx hi hj oM hd k
theorem TL.pureT {op:Op} {b:Bool} (h:pureOp (val e) op=some (.bool b)) (hb:b=true) (hd:Nat.blt d n=true) (k:TL P n ops rest ((d,.bool true)::e) w Q) :
  TL P n ops (⟨some d,op,ty,pos,aft,none⟩::rest) e w Q:=TL.pure (hb▸h) hd k
theorem TL.pureF {op:Op} {b:Bool} (h:pureOp (val e) op=some (.bool b)) (hb:b=false) (hd:Nat.blt d n=true) (k:TL P n ops rest ((d,.bool false)::e) w Q) :
  TL P n ops (⟨some d,op,ty,pos,aft,none⟩::rest) e w Q:=TL.pure (hb▸h) hd k
theorem TL.boxA {t:TypeId} {x:Operand} {vs:List Value} (hx:val e x=some (.agg vs.toArray)) (hd:Nat.blt d n=true)
  (k:∀ b w',Grow w w'→Blk w' b t vs→w.heap.size=b→w'.heap.size=b+1→TL P n ops rest ((d,.pointer (some ⟨b,0,none⟩))::e) w' Q) :
  TL P n ops (⟨some d,.box t x,ty,pos,aft,none⟩::rest) e w Q:=TL.box hx rfl hd k
theorem TL.isIndexV {t1:TypeId} {x y:Operand} {d:Option Nat} (h:TL P n ops (⟨d,.index t1 x y,ty,pos,aft,none⟩::rest) e w Q):TL P n ops (⟨d,.index t1 x y,ty,pos,aft,none⟩::rest) e w Q:=h
end
section
variable [Rn]
variable {P:Program} {n:Nat} {e:dI} {w:World} {Q:dA} {ops:Array Oper} {rest:List Oper} {d:Nat} {ty:TypeId} {pos:String} {aft:Array Edge}
theorem StrTy.und' {t:TypeId} (h:StrTy P t):P.underlying t=some .string:=by
 have h:=h.h;unfold strB at h;split at h
 ·assumption
 ·cases h
theorem TL.indexStr {t1:TypeId} {x i:Operand} {s:ByteArray} {kd:IntKind} {a v:Nat} [ht:StrTy P t1] (hx:val e x=some (.string s)) (hi:val e i=some (.int kd (a:Int))) (hs:(s.data.toList[a]?).map (·.toNat)=some v) (hd:Nat.blt d n=true)
  (k:TL P n ops rest ((d,.int .u8 (v:Int))::e) w Q):TL P n ops (⟨some d,.index t1 x i,ty,pos,aft,none⟩::rest) e w Q :=
 TL.run (λ r hr=>by
  have h1:∃ b,s.data.toList[a]? = some b∧b.toNat=v:=by
   cases h:s.data.toList[a]? with
   | none=>rw [h] at hs;cases hs
   | some b=>rw [h] at hs;exact ⟨b,rfl,by simpa using hs⟩
  obtain ⟨b,h2,h3⟩:=h1
  have a0:a<s.size:=by
   have:=(List.getElem?_eq_some_iff.1 h2).1;rw [Array.length_toList] at this;exact this
  have h4:s[a]? = some b:=by
   rw [getElem?_pos s a a0];have h5:=(List.getElem?_eq_some_iff.1 h2).2;rw [Array.getElem_toList] at h5;exact congrArg some h5
  subst h3
  simp [execOp,hr.eval hx,hr.eval hi,Instr.index,asIntOf,underlying,StrTy.und' ht,h4]) hd k
theorem or_one (n:Nat):n|||1=n / 2*2+1:=by
 have h:=Nat.two_pow_add_eq_or_of_lt (i:=1) (b:=1) dM (n / 2);rw [Nat.pow_one,Nat.mul_comm] at h;rcases Nat.mod_two_eq_zero_or_one n with h0|h0
 ·rw [h,show n / 2*2=n by omega]
 ·have e:n=n / 2*2|||1:=by rw [← h];omega
  rw [h];conv=>lhs;rw [e]
  rw [Nat.or_assoc,Nat.or_self]
theorem TL.or1 {x y:Operand} {a:Nat} {t1 t2:TypeId} (hx:val e x=some (.int .u64 (a:Int))) (hy:val e y=some (.int .u64 1)) (ha:a<18446744073709551616) (hd:Nat.blt d n=true)
  (k:TL P n ops rest ((d,.int .u64 ((a / 2*2+1:Nat):Int))::e) w Q):TL P n ops (⟨some d,.binOp .or t1 x y t2,ty,pos,aft,none⟩::rest) e w Q :=
 TL.run (λ r hr=>by
  have e1:((BitVec.ofInt IntKind.u64.bits (a:Int))|||(BitVec.ofInt IntKind.u64.bits ((1:Nat):Int))).toNat=a / 2*2+1:=by
   rw [BitVec.toNat_or,bits_nat (M:=18446744073709551616) rfl,bits_nat (M:=18446744073709551616) rfl,Nat.mod_eq_of_lt ha];exact or_one a
  have e2:=eT (kd:=.u64) (M:=18446744073709551616) rfl (show a / 2*2+1<18446744073709551616 by omega);rw [← e1] at e2
  have hb:binOp .or t1 (.int .u64 (a:Int)) (.int .u64 ((1:Nat):Int))=Pure.pure (.int .u64 ((a / 2*2+1:Nat):Int)):=by
   simp only [binOp,Op.intBits,ne_eq,not_true_eq_false,if_false];rw [e2,e1]
  have a0:r.eval y=.int .u64 ((1:Nat):Int):=hr.eval hy;simp only [execOp,bG,hr.eval hx,a0,hb]
  rfl) hd k
end
end Go.V
namespace Go.Proofs.YtfpadnmdafiddaaGreatDoor
open Go Go.RowKit Go.V
def bl (n:Nat):Nat:=if n=0 then 0 else Nat.log2 n+1
theorem bl_le {a k:Nat} (h:a<2^k):bl a≤k:=by
 unfold bl;split
 ·omega
 ·rename_i h0;have:=(Nat.log2_lt h0).2 h;omega
theorem bl_gt {a k:Nat} (h:2^k≤a):k<bl a:=by
 have h0:a≠0:=by have:=Nat.two_pow_pos k;omega
 unfold bl;rw [if_neg h0];rcases Nat.lt_or_ge (Nat.log2 a) k with h1|h1
 ·exact absurd ((Nat.log2_lt h0).1 h1) oM
 ·omega
theorem bl_shift {a s:Nat} (h:2^s≤a):bl a=bl (a / 2^s)+s:=by
 have h0:a≠0:=by have:=Nat.two_pow_pos s;omega
 have h1:a / 2^s≠0:=by
  have:=(Nat.le_div_iff_mul_le (Nat.two_pow_pos s)).2 (show 1*2^s≤a by omega);omega
 unfold bl;rw [if_neg h0,if_neg h1]
 have hl:Nat.log2 a=Nat.log2 (a / 2^s)+s:=by
  refine (Nat.log2_eq_iff h0).2 ?_;obtain ⟨u,v⟩:=(Nat.log2_eq_iff h1).1 rfl;rw [Nat.le_div_iff_mul_le (Nat.two_pow_pos s)] at u;rw [Nat.div_lt_iff_lt_mul (Nat.two_pow_pos s)] at v;rw [Nat.pow_add,show Nat.log2 (a / 2^s)+s+1=Nat.log2 (a / 2^s)+1+s by omega,Nat.pow_add _ _ s];exact ⟨u,v⟩
 omega
theorem len8_c (a:Nat) (ha:a<256) (w:World):Calls Tryz.prog 275 #[.int .u8 (a:Int)] w (Ret λ v w'=>v=.int .i64 (bl a:Int)∧w=w'):=by
 refine V.calls (args:=[_]) Tryz.func275 rfl Tryz.ntmps275 rfl rfl ?_;repeat refine aF ?_
 have hb:bl a≤8:=bl_le ha;refine TL.indexStr (v:=bl a) rfl rfl ?_ rfl ?_
 ·clear w;obtain ⟨b,rfl⟩:∃ b:Fin 256,b.1=a:=⟨⟨a,ha⟩,rfl⟩
  clear ha hb;revert b
  decide +kernel
 repeat refine aF ?_
 exact bA rfl ⟨_,rfl,rfl,rfl⟩
theorem lz8_c (a:Nat) (ha:a<256) (w:World):Calls Tryz.prog 273 #[.int .u8 (a:Int)] w (Ret λ v w'=>v=.int .i64 ((8-bl a:Nat):Int)∧w=w'):=by
 refine V.calls (args:=[_]) Tryz.func273 rfl Tryz.ntmps273 rfl rfl ?_;have hb:bl a≤8:=bl_le ha;repeat (first|refine aF ?_|(refine aB 275 ?_;refine aA rfl (len8_c a ha _) rfl ?_;rintro _ _ ⟨rfl,rfl⟩))
 exact bA rfl ⟨_,rfl,rfl,rfl⟩
theorem len64_c (a:Nat) (ha:a<18446744073709551616) (w:World):Calls Tryz.prog 244 #[.int .u64 (a:Int)] w (Ret λ v w'=>v=.int .i64 (bl a:Int)∧w=w'):=by
 refine V.calls (args:=[_]) Tryz.func244 rfl Tryz.ntmps244 rfl rfl ?_;refine dU 2 (λ e v=>∃ b s:Nat,Sub [(2,.int .i64 (s:Int)),(0,.int .u64 (b:Int))] e∧w=v∧b<4294967296∧bl a=s+bl b∧s≤32) ?_ ?_;rotate_left
 ·by_cases h:a<4294967296
  ·repeat refine aF ?_
   exact ⟨a,0,⟨rfl,rfl,trivial⟩,rfl,h,oM,oM⟩
  ·have hs:=bl_shift (a:=a) (s:=32) oM;repeat refine aF ?_
   exact ⟨a / 4294967296,32,⟨rfl,rfl,trivial⟩,rfl,oM,by rw [hs];simp only [Nat.reducePow];omega,oM⟩
 rintro e v ⟨b,s,a0,rfl,hb,e0,hs⟩;refine bD (e':=[(2,_),(0,_)]) ?_ a0;clear a0;refine dU 1 (λ e v=>∃ b s:Nat,Sub [(2,.int .i64 (s:Int)),(0,.int .u64 (b:Int))] e∧w=v∧b<65536∧bl a=s+bl b∧s≤48) ?_ ?_;rotate_left
 ·by_cases h:b<65536
  ·repeat refine aF ?_
   exact ⟨b,s,⟨rfl,rfl,trivial⟩,rfl,h,oM,oM⟩
  ·have f0:=bl_shift (a:=b) (s:=16) oM;repeat refine aF ?_
   exact ⟨b / 65536,s+16,⟨rfl,rfl,trivial⟩,rfl,oM,by rw [e0,f0];simp only [Nat.reducePow];omega,oM⟩
 clear hb e0 hs;rintro e v ⟨b,s,a0,rfl,hb,e0,hs⟩;refine bD (e':=[(2,_),(0,_)]) ?_ a0;clear a0;refine dU 1 (λ e v=>∃ b s:Nat,Sub [(2,.int .i64 (s:Int)),(0,.int .u64 (b:Int))] e∧w=v∧b<256∧bl a=s+bl b∧s≤56) ?_ ?_;rotate_left
 ·by_cases h:b<256
  ·repeat refine aF ?_
   exact ⟨b,s,⟨rfl,rfl,trivial⟩,rfl,h,oM,oM⟩
  ·have f0:=bl_shift (a:=b) (s:=8) oM;repeat refine aF ?_
   exact ⟨b / 256,s+8,⟨rfl,rfl,trivial⟩,rfl,oM,by rw [e0,f0];simp only [Nat.reducePow];omega,oM⟩
 clear hb e0 hs;rintro e v ⟨b,s,a0,rfl,hb,e0,hs⟩;refine bD (e':=[(2,_),(0,_)]) ?_ a0;clear a0;have g0:bl b≤8:=bl_le hb;repeat refine aF ?_
 refine TL.indexStr (v:=bl b) rfl rfl ?_ rfl ?_
 ·clear e0 g0;obtain ⟨c,rfl⟩:∃ c:Fin 256,c.1=b:=⟨⟨b,hb⟩,rfl⟩
  clear hb;revert c
  decide +kernel
 repeat refine aF ?_
 exact bA rfl ⟨_,rfl,by rw [e0],rfl⟩
theorem bl_or1 (n:Nat):bl (n / 2*2+1)=max (bl n) 1:=by
 rcases Nat.lt_or_ge n 2 with h|h
 ·obtain rfl|rfl:n=0∨n=1:=by omega
  ·decide
  ·decide
 ·have h1:=bl_shift (a:=n) (s:=1) oM;have h2:=bl_shift (a:=n / 2*2+1) (s:=1) oM;have h3:=bl_gt (a:=n) (k:=1) oM;simp only [Nat.pow_one] at h1 h2;rw [h2,show (n / 2*2+1) / 2=n / 2 by omega];omega
def sz (n:Nat):Nat:=min ((max (bl n) 1+6) / 7) 9
theorem sz_le (n:Nat):1≤sz n∧sz n≤9:=by unfold sz;omega
theorem size_c (n:Nat) (hn:n<18446744073709551616) (w:World):Calls Tryz.prog 233 #[.int .u64 (n:Int)] w (Ret λ v w'=>v=.int .i64 (sz n:Int)∧w=w'):=by
 refine V.calls (args:=[_]) Tryz.func233 rfl Tryz.ntmps233 rfl rfl ?_;have hb:bl (n / 2*2+1)≤64:=bl_le (by show _<18446744073709551616;omega);have hs:sz n=min ((bl (n / 2*2+1)+6) / 7) 9:=by unfold sz;rw [bl_or1]
 repeat (first|refine TL.or1 rfl rfl hn rfl ?_|refine yC ?_|(refine aB 244 ?_;refine aA rfl (len64_c _ oM _) rfl ?_;rintro _ _ ⟨rfl,rfl⟩))
 exact bA rfl ⟨_,rfl,congrArg (Value.int .i64) (by rw [hs];split<;>omega),rfl⟩
end Go.Proofs.YtfpadnmdafiddaaGreatDoor
namespace Go.V
open Go Go.RowKit
section
variable [Rn]
variable {P:Program} {n:Nat} {e:dI} {w:World} {Q:dA} {ops:Array Oper} {rest:List Oper} {d:Nat} {ty:TypeId} {pos:String} {aft:Array Edge}
theorem TL.make0 {t e0 size bytes c:Nat} {x y:Operand} {kl kc:IntKind} [ht:SliceTy P t e0 size bytes] (hx:val e x=some (.int kl 0)) (hy:val e y=some (.int kc (c:Int)))
  (a0:bytes*c≤281474976710656) (i0:c≤maxLen) (hd:Nat.blt d n=true)
  (k:∀ b w',w.heap.size=b→w'.ownsRow w.heap.size e0 size (.slice (some ⟨b,0,none⟩) 0 c) 0 []→Grow w w'→TL P n ops rest ((d,.slice (some ⟨b,0,none⟩) 0 c)::e) w' Q) :
  TL P n ops (⟨some d,.makeSlice t x y,ty,pos,aft,none⟩::rest) e w Q:=by
 obtain ⟨i,z,hi,g0,h0,hz,j0,k0⟩:=ht.info;subst h0;obtain ⟨w',f0,h2,h3⟩:=run_make_own (P:=P) (w:=w) w.heap.size t e0 i z size ht.und hi hz g0 kl kc c a0 i0 (Nat.le_refl _);refine TL.run (v:=.slice (some ⟨w.heap.size,0,none⟩) 0 c) (w':=w') (λ r hr=>?_) hd (k _ _ rfl h2 (Grow.mk ⟨h3.os,h3.tape,h3.output,h3.size,λ k hk=>h3.block k hk sM⟩));simp [execOp,hr.eval hx,hr.eval hy,f0]
theorem TL.isMake {t:TypeId} {x y:Operand} {d:Option Nat} (h:TL P n ops (⟨d,.makeSlice t x y,ty,pos,aft,none⟩::rest) e w Q):TL P n ops (⟨d,.makeSlice t x y,ty,pos,aft,none⟩::rest) e w Q:=h
theorem TL.orB {x y:Operand} {a b:Nat} {zx zy:Int} {t1 t2:TypeId} (hx:val e x=some (.int .u8 zx)) [ix:Lit zx a] (hy:val e y=some (.int .u8 zy)) [iy:Lit zy b] (ha:a<256) (hb:b<256) (hd:Nat.blt d n=true)
  (k:TL P n ops rest ((d,.int .u8 ((a|||b:Nat):Int))::e) w Q):TL P n ops (⟨some d,.binOp .or t1 x y t2,ty,pos,aft,none⟩::rest) e w Q :=
 TL.run (λ r hr=>by
  rw [ix.h] at hx;rw [iy.h] at hy
  have e1:((BitVec.ofInt IntKind.u8.bits (a:Int))|||(BitVec.ofInt IntKind.u8.bits (b:Int))).toNat=a|||b:=by
   rw [BitVec.toNat_or,bits_nat (M:=256) rfl,bits_nat (M:=256) rfl,Nat.mod_eq_of_lt ha,Nat.mod_eq_of_lt hb]
  have e2:=eT (kd:=.u8) (M:=256) rfl (show a|||b<256 from Nat.or_lt_two_pow (n:=8) ha hb);rw [← e1] at e2
  have hb:binOp .or t1 (.int .u8 (a:Int)) (.int .u8 (b:Int))=Pure.pure (.int .u8 ((a|||b:Nat):Int)):=by
   simp only [binOp,Op.intBits,ne_eq,not_true_eq_false,if_false];rw [e2,e1]
  simp only [execOp,bG,hr.eval hx,hr.eval hy,hb]
  rfl) hd k
theorem TL.andB {x y:Operand} {a b:Nat} {zx zy:Int} {t1 t2:TypeId} (hx:val e x=some (.int .u8 zx)) [ix:Lit zx a] (hy:val e y=some (.int .u8 zy)) [iy:Lit zy b] (ha:a<256) (hb:b<256) (hd:Nat.blt d n=true)
  (k:TL P n ops rest ((d,.int .u8 ((a&&&b:Nat):Int))::e) w Q):TL P n ops (⟨some d,.binOp .and t1 x y t2,ty,pos,aft,none⟩::rest) e w Q :=
 TL.run (λ r hr=>by
  rw [ix.h] at hx;rw [iy.h] at hy
  have e1:((BitVec.ofInt IntKind.u8.bits (a:Int))&&&(BitVec.ofInt IntKind.u8.bits (b:Int))).toNat=a&&&b:=by
   rw [BitVec.toNat_and,bits_nat (M:=256) rfl,bits_nat (M:=256) rfl,Nat.mod_eq_of_lt ha,Nat.mod_eq_of_lt hb]
  have e2:=eT (kd:=.u8) (M:=256) rfl (show a&&&b<256 from Nat.lt_of_le_of_lt Nat.and_le_left ha);rw [← e1] at e2
  have hb:binOp .and t1 (.int .u8 (a:Int)) (.int .u8 (b:Int))=Pure.pure (.int .u8 ((a&&&b:Nat):Int)):=by
   simp only [binOp,Op.intBits,ne_eq,not_true_eq_false,if_false];rw [e2,e1]
  simp only [execOp,bG,hr.eval hx,hr.eval hy,hb]
  rfl) hd k
theorem TL.shlT {zx zy:Int} {x y:Operand} {ky:IntKind} {a s:Nat} {t1 t2:TypeId} (hx:val e x=some (.int .u8 zx)) [ix:Lit zx a] (hy:val e y=some (.int ky zy)) [iy:Lit zy s] (hs:s≤8) (hd:Nat.blt d n=true)
  (k:TL P n ops rest ((d,.int .u8 ((a*2^s%256:Nat):Int))::e) w Q):TL P n ops (⟨some d,.binOp .shl t1 x y t2,ty,pos,aft,none⟩::rest) e w Q :=
 TL.run (λ r hr=>by
  rw [ix.h] at hx;rw [iy.h] at hy
  have h3:min s IntKind.u8.bits=s:=Nat.min_eq_left hs;have h4:¬ ((s:Int)<0):=by omega
  have e1:(a:Int)*2^s=((a*2^s:Nat):Int):=by simp
  have e2:IntKind.u8.wrap ((a*2^s:Nat):Int)=((a*2^s%256:Nat):Int):=wrap_u (M:=256) rfl (a*2^s);rw [← e1] at e2;simp only [execOp,binOp,bG,Op.shift,hr.eval hx,hr.eval hy]
  simp [h3,h4,e2]) hd k
end
end Go.V
namespace Go.Proofs.YtfpadnmdafiddaaGreatDoor
open Go Go.RowKit Go.V
def bB (l:List Nat):List Value:=l.map λ (b:Nat)=>.int .u8 (b:Int)
theorem bO (l:List Nat):∀ u∈bB l,u.oneCell'=true:=by
 intro u hu;simp [bB] at hu;obtain ⟨x,_,rfl⟩:=hu;rfl
theorem dH (l r:List Nat):bB (l++r)=bB l++bB r:=by simp [bB]
theorem bE (l:List Nat):(bB l).length=l.length:=by simp [bB]
theorem grown_c (F:Nat→Prop) (a:Option Addr) (n c m:Nat) (l:List Value) (w:World) (hs:Sl F w 1 a n c l) (h1:∀ u∈l,u.oneCell'=true) (hn:n+m≤1099511627776) :
  Calls Tryz.prog 215 #[.slice a n c,.int .i64 (m:Int)] w (Ret λ v w'=>w'.ownsRow w.heap.size 5 1 v n l∧Grow w w'):=by
 refine V.calls (args:=[_,_]) Tryz.func215 rfl Tryz.ntmps215 rfl rfl ?_;repeat refine dD ?_
 refine TL.make0 (c:=n+m) rfl rfl oM (by unfold maxLen;omega) rfl ?_;intro b w1 hb e0 hg;repeat refine dD ?_
 refine TL.append rfl rfl e0 (hs.grow hg) h1 (by unfold maxLen;omega) oM hg.size rfl ?_;intro v' w3 a0 f0 _;repeat refine dD ?_
 refine bA rfl ⟨_,rfl,?_,Grow.mk (aL f0 hg.size (λ k hk=>(aR e0 hk).1) hg.1)⟩;simpa using a0
def big (n:Nat):Nat→List Nat
 | 0=>[]
 | s+1=>n / 2^(8*s)%256::big n s
theorem length_big (n:Nat):∀ s,(big n s).length=s
 | 0=>rfl
 | s+1=>by simp [big,length_big n s]
def head1 (n s:Nat):Nat:=(255*2^(9-s)%256)|||(n / 2^(8*(s-1))%256)
def encL (n:Nat):List Nat:=head1 n (sz n)::big n (sz n-1)
theorem length_encL (n:Nat):(encL n).length=sz n:=by
 have:=sz_le n;simp [encL,length_big];omega
theorem number_c (B:Nat) (v:Value) (k0 n:Nat) (xs:List Value) (w:World) (a0:w.ownsRow B 5 1 v k0 xs) (hB:B≤w.heap.size) (hn:n<18446744073709551616) (hk:k0≤1099511627776) :
  Calls Tryz.prog 232 #[v,.int .u64 (n:Int)] w (Ret λ v' w'=>w'.ownsRow B 5 1 v' (k0+sz n) (xs++bB (encL n))∧Below B w w'):=by
 refine V.calls (args:=[_,_]) Tryz.func232 rfl Tryz.ntmps232 rfl rfl ?_;have hs:=sz_le n;generalize hsz:sz n=s at hs;refine dU 2 (λ e v'=>Sub [(5,.int .i64 (s:Int)),(1,.int .u64 (n:Int)),(0,v)] e∧v'=w) ?_ ?_;rotate_left
 ·repeat (first|refine dD ?_|(refine aB 233 ?_;refine aA rfl (size_c n hn _) rfl ?_;rintro _ _ ⟨rfl,rfl⟩);rw [hsz])
  exact ⟨⟨rfl,rfl,rfl,trivial⟩,rfl⟩
 rintro e w0 ⟨e0,rfl⟩;refine bD (e':=[(5,_),(1,_),(0,_)]) ?_ e0;clear e0;refine dU 1 (λ e v'=>∃ u,Sub [(5,.int .i64 (s:Int)),(1,.int .u64 (n:Int)),(0,u)] e∧v'.ownsRow B 5 1 u (k0+1) (xs++bB [head1 n s])∧Below B w0 v') ?_ ?_;rotate_left
 ·have hh:head1 n s<256:=Nat.or_lt_two_pow (n:=8) (Nat.mod_lt _ dM) (Nat.mod_lt _ dM);refine upto_seq ?_;apply T.any 12 [is _,is _,is _,is _,is _,is _,is _,is _,is _,is _,is _,slF (λ _=>True) 1 1 1 (bB [head1 n s])]
  ·rfl
  ·repeat' (first|exact aN|refine aK ?_ ?_)
   iterate 2
    ·refine yQ λ wq _ _ f0=>?_;repeat refine dD ?_
     exact aD rfl yG rfl
   ·refine yQ λ wq _ _ f0=>?_;repeat (first|(refine TL.subN (a:=9) rfl rfl oM oM rfl ?_)|refine yA ?_)
    exact aD rfl yG rfl
   ·refine yQ λ wq _ _ f0=>?_;repeat (first|(refine jR ?_;refine TL.shlT (a:=255) (s:=9-s) rfl rfl (by show 9-s≤8;omega) rfl ?_)|refine yA ?_)
    exact aD rfl yG rfl
   iterate 2
    ·refine yQ λ wq _ _ f0=>?_;repeat refine dD ?_
     exact aD rfl yG rfl
   ·refine yQ λ wq _ _ f0=>?_;repeat (first|(refine TL.subN rfl rfl oM oM rfl ?_)|refine yA ?_)
    exact aD rfl yG rfl
   ·refine yQ λ wq _ _ f0=>?_;repeat (first|(refine TL.mulN (a:=8) rfl rfl oM rfl ?_)|refine yA ?_)
    exact aD rfl yG rfl
   ·refine yQ λ wq _ _ f0=>?_;repeat (first|(refine eS ?_;refine TL.shrS rfl rfl (by show 8*(s-1)≤64;omega) rfl ?_)|refine yA ?_)
    exact aD rfl yG rfl
   ·refine yQ λ wq _ _ f0=>?_;repeat (first|(refine eA ?_;refine iC rfl (M:=256) rfl rfl ?_)|refine yA ?_)
    exact aD rfl yG rfl
   ·refine yQ λ wq _ _ f0=>?_;repeat (first|(refine TL.isOr ?_;refine TL.orB rfl rfl (Nat.mod_lt _ dM) (Nat.mod_lt _ dM) rfl ?_)|refine yA ?_)
    exact aD rfl yG rfl
   ·refine yQ λ wq _ _ f0=>?_;refine TL.buildSlice rfl rfl rfl rfl rfl ?_;intro b w3 i0 t0 y0 x0 p0;repeat refine dD ?_
    exact aD rfl yG ⟨_,rfl,(aU t0 p0 dM).mono (λ _ _=>trivial)⟩
  ·intro w2 e1 f1 j0 n0 l0;((((repeat (refine aJ rfl rfl ?_;intro vq u0;try (obtain rfl:=u0)));(refine aZ ?_))))
   obtain ⟨a',rfl,o0⟩:=u0;have h4:=j0.size;refine TL.append rfl rfl (aO a0 j0) o0 (bO _) (by unfold maxLen;omega) oM oM rfl ?_;intro v' w3 h0 q0 _;repeat refine dD ?_
   exact ⟨_,⟨rfl,rfl,rfl,trivial⟩,h0,aL q0 oM (λ k hk=>(aR (aO a0 j0) hk).1) (kB j0 hB (Below.refl _ _))⟩
 clear a0;rintro e w1 ⟨u,e0,a0,v0⟩;refine bD (e':=[(5,_),(1,_),(0,_)]) ?_ e0;clear e0;repeat (refine yA ?_)
 refine aX (S:=Value×Nat) (λ q=>[(6,.int .i64 ((q.2:Int)-1)),(1,.int .u64 (n:Int)),(0,q.1)])
  (λ q w2=>∃ m ys,q.2<s∧w2.ownsRow B 5 1 q.1 m ys∧ys++bB (big n q.2)=xs++bB (head1 n s::big n (s-1))∧m+q.2=k0+s∧Below B w0 w2) (λ q=>q.2) (u,s-1)
  ⟨congrArg (λ z=>some (Value.int .i64 z)) (by show (s:Int)-2=((s-1:Nat):Int)-1;omega),rfl,rfl,trivial⟩ ⟨_,_,by show s-1<s;omega,a0,by simp [bB],by show k0+1+(s-1)=_;omega,v0⟩ ?_
 clear a0 v0;rintro ⟨u2,j⟩ w2 ⟨m,ys,hj,a0,m0,hm,hb⟩;simp only at hj a0 m0 hm;have s0:encL n=head1 n s::big n (s-1):=by unfold encL;rw [hsz]
 cases j with
 | zero =>
  repeat refine dD ?_
  refine bA rfl ⟨_,rfl,?_,hb⟩;rw [s0,← m0,← hm];simpa [big,bB] using a0
 | succ j =>
  have ej:(((j+1:Nat):Int))-1=(j:Int):=by omega
  simp only [ej];repeat (first|(refine eM ?_;refine TL.mulN (a:=8) rfl rfl oM rfl ?_)|(refine eS ?_;refine TL.shrS rfl rfl (by show 8*j≤64;omega) rfl ?_)|(refine eA ?_;refine iC rfl (M:=256) rfl rfl ?_)|refine yA ?_)
  refine TL.buildSlice rfl rfl rfl rfl rfl ?_;intro b w3 i0 t0 y0 x0 p0;have o0:Sl (λ _=>True) w3 1 (some ⟨b,0,none⟩) 1 1 (bB [n / 2^(8*j)%256]):=(aU (sz:=1) (m:=1) t0 p0 dM).mono (λ _ _=>trivial);have z0:B≤w2.heap.size:=by have:=hb.size;omega
  have h4:=i0.size;refine TL.append rfl rfl (aO a0 i0) o0 (bO [n / 2^(8*j)%256]) (by unfold maxLen;omega) oM oM rfl ?_;intro v' w4 g0 q0 _;repeat refine dD ?_
  refine aE (v',j) ⟨congrArg (λ z=>some (Value.int .i64 z)) oM,rfl,rfl,trivial⟩ ⟨_,_,by show j<s;omega,g0,?_,by show m+1+j=_;omega,aL q0 oM (λ k hk=>(aR (aO a0 i0) hk).1) (kB i0 z0 hb)⟩ (Nat.lt_succ_self j);rw [← m0];simp [big,bB]
end Go.Proofs.YtfpadnmdafiddaaGreatDoor
namespace Go.Proofs.YtfpadnmdafiddaaGreatDoor
abbrev Bs:=List Nat
def bY:Bs→Bs→Int
 | [],[]=>0
 | [],_::_=>-1
 | _::_,[]=>1
 | a::x,b::y=>if a<b then -1 else if b<a then 1 else bY x y
structure Nd where
 items:List (Bs×Bs)
 kids:List Nat
 keys:List Bs
def nd0:Nd:=⟨[],[],[]⟩
def bN (n:Nd):Bool:=n.kids.isEmpty
def aT (n:Nd):Nat:=n.items.length+n.kids.length
def dW (k:Bs):Bool:=decide (1≤k.length)&&decide (k.length≤16)
def eR (v:Bs):Bool:=decide (v.length≤32)
def gL (l:List (Bs×Bs)) (i:Nat):Bool :=
 match l[i]? with
 | none=>true
 | some x=>dW x.1&&eR x.2&&(match i with
  | 0=>true
  | j+1=>match l[j]? with
   | none=>true
   | some y=>decide (bY y.1 x.1<0))
def jF (l:List Bs) (i:Nat):Bool :=
 match l[i]? with
 | none=>true
 | some x=>dW x&&(match i with
  | 0=>true
  | j+1=>match l[j]? with
   | none=>true
   | some y=>decide (bY y x<0))
def jW (l:List Nat) (i:Nat):Bool :=
 match l[i]? with
 | none=>true
 | some k=>decide (k<2147483648)&&!((l.take i).contains k)
def gF (f:Nat→Bool) (n:Nat):Bool:=(List.range n).all f
def wholeL (n:Nd):Bool:=n.keys.isEmpty&&decide (n.items.length≤8)&&gF (gL n.items) n.items.length
def wholeB (n:Nd):Bool:=n.items.isEmpty&&decide (2≤n.kids.length)&&decide (n.kids.length≤8)&&decide (n.keys.length+1=n.kids.length)&&gF (jW n.kids) n.kids.length&&gF (jF n.keys) n.keys.length
def bF (n:Nd):Bool:=if bN n then wholeL n else wholeB n
def dP (l:List (Bs×Bs)) (key:Bs):Nat:=(l.takeWhile λ x=>decide (bY x.1 key<0)).length
def fP (l:List (Bs×Bs)) (key:Bs):Bool:=match l[dP l key]? with
 | none=>false
 | some x=>decide (bY x.1 key=0)
def fW (l:List Bs) (key:Bs):Nat:=(l.takeWhile λ x=>decide (bY x key≤0)).length
def bS (p:Bs):Bs:=encL p.length++p
def bP (n:Nat):Bs:=[n%256,n / 256%256,n / 65536%256,n / 16777216%256]
def dC (n:Nd):Bs :=
 if bN n then [0,n.items.length]++n.items.flatMap (λ x=>bS x.1++bS x.2)
 else [1,n.kids.length]++n.kids.flatMap bP++n.keys.flatMap bS
structure Pg where
 count:Nat
 words:List Nat
 body:Nat→Bs
def bK (s:Pg) (n:Nat):Bool:=decide (n<s.count)&&(s.words.getD (n / 64) 0).testBit (n%64)
def lowP (s:Pg):Nat:=((List.range s.count).takeWhile λ n=>bK s n).length
def gX (l:List Nat) (n:Nat):List Nat:=l.set (n / 64) (l.getD (n / 64) 0|||2^(n%64))
def padB (b:Bs):Bs:=b++List.replicate (500-b.length) 0
def newP (s:Pg) (b:Bs):Option (Nat×Pg) :=
 let n:=lowP s
 if n=s.count then none else some (n,{ s with words:=gX s.words n,body:=λ k=>if k=n then padB b else s.body k })
def fN (s:Pg):Nat:=((List.range s.count).filter λ n=>bK s n).length
def cC (s:Pg):Nat:=s.count-fN s
theorem cmpB_self:∀ a:Bs,bY a a=0
 | []=>rfl
 | a::x=>by simp [bY,cmpB_self x]
theorem cmpB_eq:∀ {a b:Bs},bY a b=0→a=b
 | [],[],_=>rfl
 | [],_::_,h=>by simp [bY] at h
 | _::_,[],h=>by simp [bY] at h
 | a::x,b::y,h=>by
  unfold bY at h;split at h
  ·cases h
  ·split at h
   ·cases h
   ·rw [cmpB_eq h,show a=b by omega]
theorem cmpB_three:∀ a b:Bs,bY a b = -1∨bY a b=0∨bY a b=1
 | [],[]=>by simp [bY]
 | [],_::_=>by simp [bY]
 | _::_,[]=>by simp [bY]
 | a::x,b::y=>by
  unfold bY;split
  ·exact .inl rfl
  ·split
   ·exact .inr (.inr rfl)
   ·exact cmpB_three x y
theorem cmpB_swap:∀ a b:Bs,bY b a = - bY a b
 | [],[]=>rfl
 | [],_::_=>rfl
 | _::_,[]=>rfl
 | a::x,b::y=>by
  unfold bY;by_cases h1:a<b
  ·rw [if_pos h1,if_neg oM,if_pos h1];rfl
  ·by_cases h2:b<a
   ·rw [if_pos h2,if_neg h1,if_pos h2]
   ·rw [if_neg h1,if_neg h2,if_neg h2,if_neg h1];exact cmpB_swap x y
def fQ (a b:Bs):Prop:=bY a b<0
theorem eJ:∀ {a b c:Bs},fQ a b→fQ b c→fQ a c
 | [],[],_,h,_=>by simp [fQ,bY] at h
 | [],_::_,[],_,h=>by simp [fQ,bY] at h
 | [],_::_,_::_,_,_=>by simp [fQ,bY]
 | _::_,[],_,h,_=>by simp [fQ,bY] at h
 | _::_,_::_,[],_,h=>by simp [fQ,bY] at h
 | a::x,b::y,c::z,h,k=>by
  unfold fQ bY at *;split at h
  ·split at k
   ·rw [if_pos oM];omega
   ·split at k
    ·omega
    ·rw [if_pos oM];omega
  ·split at h
   ·omega
   ·split at k
    ·rw [if_pos oM];omega
    ·split at k
     ·omega
     ·rw [if_neg oM,if_neg oM];exact eJ (a:=x) (b:=y) (c:=z) h k
theorem fG (a:Bs):¬ fQ a a:=by unfold fQ;rw [cmpB_self];omega
theorem klt_asymm {a b:Bs} (h:fQ a b):¬ fQ b a:=λ k=>fG a (eJ h k)
theorem klt_or (a b:Bs):fQ a b∨a=b∨fQ b a:=by
 rcases cmpB_three a b with h|h|h
 ·exact .inl (by unfold fQ;omega)
 ·exact .inr (.inl (cmpB_eq h))
 ·exact .inr (.inr (by unfold fQ;rw [cmpB_swap];omega))
def kle (a b:Bs):Prop:=¬ fQ b a
theorem kle_refl (a:Bs):kle a a:=fG a
theorem klt_of_le {a b c:Bs} (h:kle a b) (k:fQ b c):fQ a c:=by
 rcases klt_or a c with g|g|g
 ·exact g
 ·subst g;exact absurd k h
 ·exact absurd (eJ k g) h
theorem nJ {a b c:Bs} (h:fQ a b) (k:kle b c):fQ a c:=by
 rcases klt_or a c with g|g|g
 ·exact g
 ·subst g;exact absurd h k
 ·exact absurd (eJ g h) k
theorem nK {a b:Bs} (h:fQ a b):kle a b:=klt_asymm h
instance (a b:Bs):Decidable (fQ a b):=inferInstanceAs (Decidable (bY a b<0))
theorem cmpB_le {a b:Bs}:bY a b≤0↔kle a b:=by
 unfold kle fQ;rw [cmpB_swap a b];omega
abbrev bT:=List (Bs×Bs)
def Srt (l:bT):Prop:=l.Pairwise λ x y=>fQ x.1 y.1
def gQ (key v:Bs):bT→bT
 | []=>[(key,v)]
 | x::l=>if fQ x.1 key then x::gQ key v l else if x.1=key then (key,v)::l else (key,v)::x::l
theorem nG {key v:Bs} {y:Bs×Bs}:∀ {l:bT},y∈gQ key v l→y=(key,v)∨y∈l
 | [],h=>by simp only [gQ,List.mem_singleton] at h;exact .inl h
 | x::l,h=>by
  unfold gQ at h;split at h
  ·rcases List.mem_cons.1 h with rfl|h
   ·exact .inr List.mem_cons_self
   ·rcases nG h with h|h
    ·exact .inl h
    ·exact .inr (List.mem_cons_of_mem _ h)
  ·split at h
   ·rcases List.mem_cons.1 h with rfl|h
    ·exact .inl rfl
    ·exact .inr (List.mem_cons_of_mem _ h)
   ·rcases List.mem_cons.1 h with rfl|h
    ·exact .inl rfl
    ·exact .inr h
theorem insI_srt {key v:Bs}:∀ {l:bT},Srt l→Srt (gQ key v l)
 | [],_=>by simp [gQ,Srt]
 | x::l,h=>by
  have h1:=List.pairwise_cons.1 h;unfold gQ;split
  ·rename_i hx;refine List.pairwise_cons.2 ⟨λ y hy=>?_,insI_srt h1.2⟩;rcases nG hy with rfl|hy
   ·exact hx
   ·exact h1.1 y hy
  ·rename_i hx;split
   ·rename_i he;exact List.pairwise_cons.2 ⟨λ y hy=>by rw [← he];exact h1.1 y hy,h1.2⟩
   ·rename_i he
    have hk:fQ key x.1:=by
     rcases klt_or x.1 key with g|g|g
     ·exact absurd g hx
     ·exact absurd g he
     ·exact g
    refine List.pairwise_cons.2 ⟨λ y hy=>?_,h⟩;rcases List.mem_cons.1 hy with rfl|hy
    ·exact hk
    ·exact eJ hk (h1.1 y hy)
theorem insI_append {key v:Bs}:∀ {a b:bT},(∀ x∈a,fQ x.1 key)→gQ key v (a++b)=a++gQ key v b
 | [],b,_=>rfl
 | x::a,b,h=>by
  simp only [List.cons_append,gQ];rw [if_pos (h x sM),insI_append (λ y hy=>h y (List.mem_cons_of_mem _ hy))]
theorem insI_before {key v:Bs}:∀ {a b:bT},(∀ x∈b,fQ key x.1)→gQ key v (a++b)=gQ key v a++b
 | [],[],_=>rfl
 | [],x::b,h=>by
  have hx:=h x sM;simp only [List.nil_append,gQ];rw [if_neg (klt_asymm hx),if_neg (λ e=>by rw [e] at hx;exact fG _ hx)];rfl
 | x::a,b,h=>by
  simp only [List.cons_append,gQ];split
  ·rw [insI_before h];rfl
  ·split<;>rfl
end Go.Proofs.YtfpadnmdafiddaaGreatDoor
namespace Go.V
open Go Go.RowKit
section
variable [Rn]
variable {P:Program} {n:Nat} {e:dI} {w:World} {Q:dA} {ops:Array Oper} {rest:List Oper} {d:Nat} {ty:TypeId} {pos:String} {aft:Array Edge}
def ptrB (P:Program) (t:TypeId):Bool:=match P.underlying t with|some (.pointer el)=>(match P.info? el with|some i=>!(Nat.beq i.size 0)|none=>false)|_=>false
class PtrTy (P:Program) (t:TypeId):Prop where
 h:ptrB P t=true
theorem PtrTy.und {t:TypeId} (h:PtrTy P t):∃ el i,P.underlying t=some (.pointer el)∧P.info? el=some i∧i.size≠0:=by
 have h:=h.h;unfold ptrB at h;split at h
 ·rename_i el he;split at h
  ·rename_i i hi;refine ⟨el,i,he,hi,?_⟩;intro h0;rw [h0] at h;cases h
  ·cases h
 ·cases h
theorem run_equalIn_nil (dp:Nat) {t:TypeId} (h:PtrTy P t) (a:Addr) (w:World):(Op.equalIn (dp+1) t (.pointer (some a)) (.pointer none)).run P w=.ok false w:=by
 obtain ⟨el,i,hu,hi,hs⟩:=h.und;simp [Op.equalIn,underlying,hu]
theorem run_equalIn_same (dp:Nat) {t:TypeId} (h:PtrTy P t) (a:Addr) (w:World):(Op.equalIn (dp+1) t (.pointer (some a)) (.pointer (some a))).run P w=.ok true w:=by
 obtain ⟨el,i,hu,hi,hs⟩:=h.und;simp [Op.equalIn,underlying,hu,sizeOf,typeInfo,hi,hs,run_sameAddr_same]
theorem TL.neNilP {t t2:TypeId} {x y:Operand} {a:Addr} [ht:PtrTy P t] (hx:val e x=some (.pointer (some a))) (hy:val e y=some (.pointer none)) (hd:Nat.blt d n=true)
  (k:TL P n ops rest ((d,.bool true)::e) w Q):TL P n ops (⟨some d,.binOp .neq t x y t2,ty,pos,aft,none⟩::rest) e w Q :=
 TL.run (λ r hr=>by
  have hg:eqGuard .neq t x y (.pointer (some a)) (.pointer none)=Pure.pure ():=rfl;simp only [execOp,hr.eval hx,hr.eval hy,hg];simp only [binOp]
  simp [Op.equal,Op.maxDepth,run_equalIn_nil 9999 ht]) hd k
theorem TL.eqSame {t t2:TypeId} {x y:Operand} {a:Addr} [ht:PtrTy P t] (hx:val e x=some (.pointer (some a))) (hy:val e y=some (.pointer (some a))) (hd:Nat.blt d n=true)
  (k:TL P n ops rest ((d,.bool true)::e) w Q):TL P n ops (⟨some d,.binOp .eql t x y t2,ty,pos,aft,none⟩::rest) e w Q :=
 TL.run (λ r hr=>by
  have hg:eqGuard .eql t x y (.pointer (some a)) (.pointer (some a))=Pure.pure ():=rfl;simp only [execOp,hr.eval hx,hr.eval hy,hg];simp only [binOp]
  simp [Op.equal,Op.maxDepth,run_equalIn_same 9999 ht]) hd k
theorem TL.guard_left {j s:Nat} {a0:Bool} {op:Op} (hj:(ops[j]?).bind (·.dst)=some s) (hb:find e s=some undef) (hd:Nat.blt d n=true)
  (hf:TL P n ops rest ((d,undef)::e) w Q):TL P n ops (⟨some d,op,ty,pos,aft,some (j,a0)⟩::rest) e w Q:=TL.mk λ a ha=>by
 have hy:(yielded ops a.tmps j==some a0)=false:=by
  have h1:=ha.get s _ hb;simp only [yielded,hj,Option.bind_some];rcases Nat.lt_or_ge s a.tmps.size with h|h
  ·have h2:a.tmps[s]? = some undef:=by
    simp [h] at h1;simp [h,h1]
   rw [h2];rfl
  ·rw [Array.getElem?_eq_none h];rfl
 have e0:=hf.out (ha.put hd undef);unfold wpListIn;simp only [Region.wanted,hy,Bool.false_eq_true,if_false];exact ⟨λ _ _=>trivial,e0⟩
end
end Go.V
namespace Go.Proofs.YtfpadnmdafiddaaGreatDoor
open Go Go.RowKit Go.V
instance:PtrTy Tryz.prog 302:=⟨kR⟩
def rdr (b:Nat) (a:Option Addr) (n c at' err:Nat):List Value:=[.pointer (some ⟨b,0,none⟩),.slice a n c,.int .i64 (at':Int),.int .i64 (err:Int)]
theorem made_c (b:Nat) (a:Option Addr) (n c at' a0:Nat) (w:World) (hb:Blk w b 329 (rdr b a n c at' a0)) :
  Calls Tryz.prog 257 #[.pointer (some ⟨b,0,none⟩)] w (Ret λ v w'=>v=.bool true∧w=w'):=by
 unfold rdr at hb;refine V.calls (args:=[_]) Tryz.func257 rfl Tryz.ntmps257 rfl rfl ?_;repeat (first|(refine TL.isNeT 302 ?_;refine TL.neNilP rfl rfl rfl ?_)|(refine iR 302 ?_;refine TL.eqSame rfl rfl rfl ?_)|refine yA ?_)
 exact bA rfl ⟨_,rfl,rfl,rfl⟩
theorem err_c (b:Nat) (a:Option Addr) (n c at' a0:Nat) (w:World) (hb:Blk w b 329 (rdr b a n c at' a0)) :
  Calls Tryz.prog 222 #[.pointer (some ⟨b,0,none⟩)] w (Ret λ v w'=>v=.int .i64 (a0:Int)∧w=w'):=by
 refine V.calls (args:=[_]) Tryz.func222 rfl Tryz.ntmps222 rfl rfl ?_;have e0:=hb;unfold rdr at e0;repeat (first|refine dD ?_|(refine aB 257 ?_;refine aA rfl (made_c b a n c at' a0 _ hb) rfl ?_;rintro _ _ ⟨rfl,rfl⟩))
 exact bA rfl ⟨_,rfl,rfl,rfl⟩
end Go.Proofs.YtfpadnmdafiddaaGreatDoor
namespace Go.V
open Go Go.RowKit
section
variable [Rn]
variable {P:Program} {n:Nat} {e:dI} {w:World} {Q:dA} {ops:Array Oper} {rest:List Oper} {d:Nat} {ty:TypeId} {pos:String} {aft:Array Edge}
theorem TL.convZ {z z':Int} {s t:TypeId} {x:Operand} {k1 k2 kd:IntKind} [hs:IntTy P s k1] [ht:IntTy P t k2] (hx:val e x=some (.int kd z)) (h:k2.wrap z=z') (hd:Nat.blt d n=true)
  (k:TL P n ops rest ((d,.int k2 z')::e) w Q):TL P n ops (⟨some d,.convert s t x,ty,pos,aft,none⟩::rest) e w Q :=
 TL.run (λ r hr=>by simp [execOp,hr.eval hx,jB hs ht,h]) hd k
end
end Go.V
namespace Go.Proofs.YtfpadnmdafiddaaGreatDoor
open Go Go.RowKit Go.V
abbrev Mut (b:Nat) (w w':World):Prop:=w.grownBy w' (some b)
theorem iM {b:Nat} {w w':World} (g:Grow w w'):Mut b w w':=⟨g.1.os,g.1.tape,g.1.output,g.2,λ k hk _=>g.block k hk⟩
theorem mut_upd {b:Nat} {w w':World} (u:Upd b w w'):Mut b w w':=⟨u.os,u.tape,u.output,Nat.le_of_eq u.size.symm,λ k _ hk=>u.block k (λ h=>hk (by rw [h]))⟩
theorem lQ {F:Nat→Prop} {b sz n c:Nat} {a:Option Addr} {cs:List Value} {w w':World} (h:Sl F w sz a n c cs) (m:Mut b w w') (hF:¬ F b):Sl F w' sz a n c cs :=
 h.keep (λ k hk a0=>m.block k a0 (λ h=>hF (by cases h;exact hk))) m.size
theorem left_c (b:Nat) (a:Option Addr) (n c at' a0:Nat) (w:World) (hb:Blk w b 329 (rdr b a n c at' a0)) (hn:n≤9223372036854775807) (ha:at'≤n) :
  Calls Tryz.prog 225 #[.pointer (some ⟨b,0,none⟩)] w (Ret λ v w'=>v=.int .i64 ((n-at':Nat):Int)∧Grow w w'):=by
 refine V.calls (args:=[_]) Tryz.func225 rfl Tryz.ntmps225 rfl rfl ?_;have e0:=hb;unfold rdr at e0;repeat (first|refine dD ?_|(refine aB 257 ?_;refine aA rfl (made_c b a n c at' a0 _ hb) rfl ?_;rintro _ _ ⟨rfl,rfl⟩))
 apply T.any 10 [is _,is _,is _,is _,is _,is _,is _,is _,is _,is _];(· kernel_rfl);(· ((repeat' (first|exact aN|refine aK ?_ ?_));(iterate 10 (· (refine yQ λ wq _ _ g0=>?_;(repeat refine dD ?_);exact aD rfl yG rfl)))));(rintro _ _ _ f0 _ _;(refine yT ?_))
 repeat refine dD ?_
 exact bA rfl ⟨_,rfl,congrArg (Value.int .i64) oM,yG⟩
theorem fail_c (b:Nat) (a:Option Addr) (n c at' f0:Nat) (x y:Nat) (w:World) (hb:Blk w b 329 (rdr b a n c at' f0)) :
  Calls Tryz.prog 259 #[.pointer (some ⟨b,0,none⟩),.int .i64 (x:Int),.int .i64 (y:Int)] w (Ret λ v w'=>Blk w' b 329 (rdr b a n c x y)∧Mut b w w'):=by
 refine V.calls (args:=[_,_,_]) Tryz.func259 rfl Tryz.ntmps259 rfl rfl ?_;have e0:=hb;unfold rdr at e0;repeat (first|refine dD ?_|refine yJ λ w' hu a0 g0=>?_)
 exact dK (vs:=[]) (by trivial) rfl ⟨_,rfl,a0,mut_upd (by exact Upd.trans (by assumption) hu)⟩
theorem take_err (b:Nat) (a:Option Addr) (n c at' a0 m:Nat) (w:World) (hb:Blk w b 329 (rdr b a n c at' a0)) (he:a0≠0) :
  Calls Tryz.prog 256 #[.pointer (some ⟨b,0,none⟩),.int .u64 (m:Int)] w (Ret λ v w'=>v=.tuple #[.slice none 0 0,.bool false]∧w=w'):=by
 refine V.calls (args:=[_,_]) Tryz.func256 rfl Tryz.ntmps256 rfl rfl ?_;have e0:=hb;unfold rdr at e0;repeat (first|refine dD ?_|(refine aB 257 ?_;refine aA rfl (made_c b a n c at' a0 _ hb) rfl ?_;rintro _ _ ⟨rfl,rfl⟩))
 exact fJ rfl rfl ⟨_,rfl,rfl,rfl⟩
theorem take_no (b:Nat) (a:Option Addr) (n c at' m:Nat) (w:World) (hb:Blk w b 329 (rdr b a n c at' 0)) (hn:n≤9223372036854775807) (ha:at'≤n) (hm:n-at'<m) (i0:m<18446744073709551616) :
  Calls Tryz.prog 256 #[.pointer (some ⟨b,0,none⟩),.int .u64 (m:Int)] w (Ret λ v w'=>v=.tuple #[.slice none 0 0,.bool false]∧Blk w' b 329 (rdr b a n c at' 5)∧Mut b w w'):=by
 refine V.calls (args:=[_,_]) Tryz.func256 rfl Tryz.ntmps256 rfl rfl ?_;have g0:=hb;unfold rdr at g0;repeat (first|refine dD ?_|(refine aB 257 ?_;refine aA rfl (made_c b a n c at' 0 _ hb) rfl ?_;rintro _ _ ⟨rfl,rfl⟩))
 have e0:IntKind.u64.wrap ((n:Int)-(at':Int))=((n-at':Nat):Int):=by
  rw [show (n:Int)-(at':Int)=((n-at':Nat):Int) by omega];exact eT (M:=18446744073709551616) rfl oM
 apply T.any 13 [is _,is _,is _,is _,is _,is _,is _,is _,is _,is _,is _,is _,is _];(· kernel_rfl);(· ((repeat' (first|exact aN|refine aK ?_ ?_));(iterate 13 (· (refine yQ λ wq _ _ j0=>?_;(repeat (first|refine dD ?_|refine TL.convZ rfl e0 rfl ?_));exact aD rfl yG rfl)))));(rintro _ _ _ a0 _ _;(refine yT ?_))
 repeat (first|refine dD ?_|refine yJ λ w' hu f0 h0=>?_)
 exact fJ rfl rfl ⟨_,rfl,rfl,f0,(iM a0).trans (mut_upd hu)⟩
theorem take_yes (F:Nat→Prop) (b:Nat) (a:Option Addr) (n c at' m:Nat) (l:List Nat) (w:World) (hb:Blk w b 329 (rdr b a n c at' 0)) (hs:Sl F w 1 a n c (bB l)) (hF:¬ F b) (hn:n≤9223372036854775807) (ha:at'≤n) (hm:m≤n-at') :
  Calls Tryz.prog 256 #[.pointer (some ⟨b,0,none⟩),.int .u64 (m:Int)] w (Ret λ v w'=>∃ a' c',v=.tuple #[.slice a' m c',.bool true]∧Sl F w' 1 a' m c' (bB ((l.drop at').take m))∧Blk w' b 329 (rdr b a n c (at'+m) 0)∧Mut b w w'):=by
 refine V.calls (args:=[_,_]) Tryz.func256 rfl Tryz.ntmps256 rfl rfl ?_;have o0:=hb;unfold rdr at o0
 have m0:IntKind.u64.wrap ((n:Int)-(at':Int))=((n-at':Nat):Int):=by
  rw [show (n:Int)-(at':Int)=((n-at':Nat):Int) by omega];exact eT (M:=18446744073709551616) rfl oM
 repeat (first|refine dD ?_|(refine aB 257 ?_;refine aA rfl (made_c b a n c at' 0 _ hb) rfl ?_;rintro _ _ ⟨rfl,rfl⟩))
 apply T.any 13 [is _,is _,is _,is _,is _,is _,is _,is _,is _,is _,is _,is _,is _];(· kernel_rfl);(· ((repeat' (first|exact aN|refine aK ?_ ?_));(iterate 13 (· (refine yQ λ wq _ _ g0=>?_;(repeat (first|refine dD ?_|refine TL.convZ rfl m0 rfl ?_));exact aD rfl yG rfl)))));(rintro _ _ _ j0 _ _;(refine yT ?_))
 repeat (first|(refine eA ?_;refine TL.convN rfl oM rfl ?_)|(refine nT ?_;refine TL.addN rfl rfl oM rfl ?_)|refine yA ?_|refine yJ λ w' hu n0 q0=>?_)
 have l0:=(hs.grow j0).upd hu (λ k hk h=>hF (h▸hk));have h0:Blk w' b 329 [.pointer (some ⟨b,0,none⟩),.slice a n c,.int .i64 ((at'+m:Nat):Int),.int .i64 0]:=n0;apply T.any 10 [is _,is _,is _,is _,is _,is _,is _,is _,is _,slF F 1 m (c-at') (bB ((l.drop at').take m))]
 ·rfl
 ·repeat' (first|exact aN|refine aK ?_ ?_)
  iterate 9
   ·refine yQ λ wq _ _ g0=>?_;repeat refine dD ?_
    exact aD rfl yG rfl
  ·refine yQ λ wq _ _ g0=>?_;refine TL.slice (l:=at') (h:=at'+m) (mm:=c) rfl (l0.grow g0) (bI rfl rfl) (bI rfl rfl) (aP c) (by intro h;cases h) oM oM (by have:=hs.cap;omega) (Nat.le_refl _) rfl ?_;intro a' a0 _;repeat refine dD ?_
   rw [show at'+m-at'=m by omega] at a0 ⊢;exact aD rfl yG ⟨a',rfl,by simpa [bB,List.map_take,List.map_drop] using a0⟩
 ·intro w6 p0 s0 k0 f0 e0;((((repeat (refine aJ rfl rfl ?_;intro vq i0;try (obtain rfl:=i0)));(refine aZ ?_))))
  obtain ⟨a',rfl,a0⟩:=i0;repeat refine dD ?_
  exact fJ rfl rfl ⟨_,rfl,a',_,rfl,a0,h0.grow k0,((iM j0).trans (mut_upd hu)).trans (iM k0)⟩
end Go.Proofs.YtfpadnmdafiddaaGreatDoor
namespace Go.V
open Go Go.RowKit
section
variable [Rn]
variable {P:Program} {n:Nat} {e:dI} {w:World} {Q:dA} {ops:Array Oper} {rest:List Oper} {d:Nat} {ty:TypeId} {pos:String} {aft:Array Edge}
theorem notB:∀ a:Fin 256,Op.intBits .xor .u8 255 (a.1:Int)=(Pure.pure (.int .u8 ((255-a.1:Nat):Int)):Sem Value):=by
 have h:∀ a:Fin 256,(BitVec.ofInt 8 255 ^^^ BitVec.ofInt 8 (a.1:Int)).toNat=255-a.1:=by decide +kernel
 intro a;have ha:=a.2;have h2:=h a;have e2:=eT (kd:=.u8) (M:=256) rfl (show 255-a.1<256 by omega);rw [← h2] at e2 ⊢;simp only [Op.intBits];show Pure.pure (Value.int .u8 (IntKind.u8.wrap ((BitVec.ofInt 8 255 ^^^ BitVec.ofInt 8 (a.1:Int)).toNat:Int)))=_;rw [e2]
theorem TL.notB {x:Operand} {a:Nat} {t1:TypeId} (hx:val e x=some (.int .u8 (a:Int))) (ha:a<256) (hd:Nat.blt d n=true)
  (k:TL P n ops rest ((d,.int .u8 ((255-a:Nat):Int))::e) w Q):TL P n ops (⟨some d,.unOp .xor t1 x,ty,pos,aft,none⟩::rest) e w Q :=
 TL.run (λ r hr=>by
  have h:Op.unary .xor (.int .u8 (a:Int))=(Pure.pure (.int .u8 ((255-a:Nat):Int)):Sem Value):=V.notB ⟨a,ha⟩;simp only [execOp,hr.eval hx,h]
  rfl) hd k
theorem TL.isUn {u:UnOp} {x:Operand} {t1:TypeId} {d:Option Nat} (h:TL P n ops (⟨d,.unOp u t1 x,ty,pos,aft,none⟩::rest) e w Q):TL P n ops (⟨d,.unOp u t1 x,ty,pos,aft,none⟩::rest) e w Q:=h
theorem TL.shrB {x y:Operand} {a s:Nat} {ky:IntKind} {t1 t2:TypeId} {zx zy:Int} (hx:val e x=some (.int .u8 zx)) [ix:Lit zx a] (hy:val e y=some (.int ky zy)) [iy:Lit zy s] (ha:a<256) (hd:Nat.blt d n=true)
  (k:TL P n ops rest ((d,.int .u8 ((a / 2^s:Nat):Int))::e) w Q):TL P n ops (⟨some d,.binOp .shr t1 x y t2,ty,pos,aft,none⟩::rest) e w Q :=
 TL.run (λ r hr=>by
  rw [ix.h] at hx;rw [iy.h] at hy
  have h4:¬ ((s:Int)<0):=by omega
  have e1:(a:Int).fdiv (2^(min s 8))=((a / 2^s:Nat):Int):=by
   rw [Int.fdiv_eq_ediv_of_nonneg _ (by exact_mod_cast Nat.zero_le (2^(min s 8)))]
   have:a / 2^(min s 8)=a / 2^s:=by
    rcases Nat.lt_or_ge s 8 with h|h
    ·rw [Nat.min_eq_left oM]
    ·rw [Nat.min_eq_right h,Nat.div_eq_of_lt ha,Nat.div_eq_of_lt (Nat.lt_of_lt_of_le ha (Nat.pow_le_pow_right (n:=2) dM h))]
   rw [← this];simp
  have h3:IntKind.u8.bits=8:=rfl;simp only [execOp,binOp,bG,Op.shift,hr.eval hx,hr.eval hy]
  simp [h3,h4,e1]) hd k
end
end Go.V
namespace Go.Proofs.YtfpadnmdafiddaaGreatDoor
open Go Go.RowKit Go.V
def cnt (f:Nat):Nat:=8-bl (255-f)+1
def kV (v c:Nat):Nat:=v*256%18446744073709551616+c
def fV:List Nat→Nat×Nat×Nat
 | []=>(0,0,5)
 | f::t=>if t.length<cnt f-1 then (0,0,5) else
  if sz ((t.take (cnt f-1)).foldl kV (f&&&(255 / 2^cnt f)))=cnt f then ((t.take (cnt f-1)).foldl kV (f&&&(255 / 2^cnt f)),cnt f,0) else (0,0,4)
theorem rnum_err (b:Nat) (a:Option Addr) (n c at' a0:Nat) (w:World) (hb:Blk w b 329 (rdr b a n c at' a0)) (he:a0≠0) :
  Calls Tryz.prog 258 #[.pointer (some ⟨b,0,none⟩)] w (Ret λ v w'=>v=.int .u64 0∧w=w'):=by
 refine V.calls (args:=[_]) Tryz.func258 rfl Tryz.ntmps258 rfl rfl ?_;repeat (first|refine dD ?_|(refine aB 256 ?_;refine aA rfl (take_err b a n c at' a0 1 _ hb he) rfl ?_;rintro _ _ ⟨rfl,rfl⟩))
 exact bA rfl ⟨_,rfl,rfl,rfl⟩
theorem rnum_none (b:Nat) (a:Option Addr) (n c:Nat) (w:World) (hb:Blk w b 329 (rdr b a n c n 0)) (hn:n≤9223372036854775807) :
  Calls Tryz.prog 258 #[.pointer (some ⟨b,0,none⟩)] w (Ret λ v w'=>v=.int .u64 0∧Blk w' b 329 (rdr b a n c n 5)∧Mut b w w'):=by
 refine V.calls (args:=[_]) Tryz.func258 rfl Tryz.ntmps258 rfl rfl ?_;repeat refine dD ?_
 refine aA rfl (take_no b a n c n 1 _ hb hn (Nat.le_refl _) oM oM) rfl ?_;rintro _ w2 ⟨rfl,e0,a0⟩;repeat refine dD ?_
 exact bA rfl ⟨_,rfl,rfl,e0,a0⟩
theorem fold_lt:∀ (R:List Nat) (v:Nat),v<18446744073709551616→(∀ x∈R,x<256)→R.foldl kV v<18446744073709551616
 | [],v,hv,_=>hv
 | x::R,v,hv,h=>fold_lt R (kV v x) (by have:=h x sM;unfold kV;omega) (λ y hy=>h y (List.mem_cons_of_mem _ hy))
theorem cnt_bd {f:Nat}:1≤cnt f∧cnt f≤9:=by unfold cnt;omega
theorem rnum_some (F:Nat→Prop) (b:Nat) (a:Option Addr) (n c at':Nat) (l:List Nat) (f:Nat) (t:List Nat) (w:World) (hb:Blk w b 329 (rdr b a n c at' 0)) (hs:Sl F w 1 a n c (bB l)) (hF:¬ F b) (hn:n≤4611686018427387904)
  (ha:at'≤n) (hl:∀ x∈l,x<256) (hd:l.drop at'=f::t) :
  Calls Tryz.prog 258 #[.pointer (some ⟨b,0,none⟩)] w (Ret λ v w'=>v=.int .u64 ((fV (f::t)).1:Int)∧Blk w' b 329 (rdr b a n c (at'+(fV (f::t)).2.1) (fV (f::t)).2.2)∧Mut b w w'):=by
 have j1:l.length=n:=by have:=hs.len;simpa [bB] using this
 have x1:t.length+1=n-at':=by have:=congrArg List.length hd;simp at this;omega
 have hf:f<256:=hl f (List.mem_of_mem_drop (i:=at') (by rw [hd];simp));have y1:=cnt_bd (f:=f);refine V.calls (args:=[_]) Tryz.func258 rfl Tryz.ntmps258 rfl rfl ?_;repeat refine dD ?_
 refine aA rfl (take_yes F b a n c at' 1 l _ hb hs hF oM ha oM) rfl ?_;rintro _ w2 ⟨a2,c2,rfl,a0,v0,p0⟩;have e2:(l.drop at').take 1=[f]:=by rw [hd];rfl
 rw [e2] at a0;have z0:=a0.row.cell (j:=0) (v:=.int .u8 (f:Int)) rfl;have u0:=v0;unfold rdr at u0;repeat (first|(refine TL.isUn ?_;refine TL.notB rfl hf rfl ?_)|(refine iQ ?_;refine TL.subN rfl rfl oM oM rfl ?_)|(refine nT ?_;refine TL.addN rfl rfl oM rfl ?_)|refine yA ?_|(refine aC (j:=0) rfl rfl rfl oM (Nat.mul_one _) ⟨_,_,a0⟩ rfl ?_)|(refine aB 273 ?_;refine aA rfl (lz8_c (255-f) oM _) rfl ?_;rintro _ _ ⟨rfl,rfl⟩))
 rw [show 8-bl (255-f)+1=cnt f from rfl];by_cases e0:t.length<cnt f-1
 ·have en:fV (f::t)=(0,0,5):=by simp only [fV,if_pos e0]
  rw [en];refine aA rfl (take_no b a n c (at'+1) (cnt f-1) _ v0 oM oM oM oM) rfl ?_;rintro _ w3 ⟨rfl,m0,k0⟩;have t0:=m0;unfold rdr at t0;rw [show at'+1-1=at' by omega];repeat refine dD ?_
  refine aA rfl (fail_c b a n c (at'+1) 5 at' 5 _ m0) rfl ?_;rintro _ w4 ⟨q1,h1⟩;repeat refine dD ?_
  exact bA rfl ⟨_,rfl,rfl,q1,(p0.trans k0).trans h1⟩
 have en:fV (f::t)=if sz ((t.take (cnt f-1)).foldl kV (f&&&(255 / 2^cnt f)))=cnt f then ((t.take (cnt f-1)).foldl kV (f&&&(255 / 2^cnt f)),cnt f,0) else (0,0,4):=by simp only [fV,if_neg e0]
 rw [en];clear en;refine aA rfl (take_yes F b a n c (at'+1) (cnt f-1) l _ v0 (lQ hs p0 hF) hF oM oM oM) rfl ?_;rintro _ w3 ⟨a3,c3,rfl,f0,m0,k0⟩;have e3:l.drop (at'+1)=t:=by rw [← List.drop_drop,hd];rfl
 rw [e3] at f0;have y0:∀ x∈t,x<256:=λ x hx=>hl x (List.mem_of_mem_drop (i:=at') (by rw [hd];exact List.mem_cons_of_mem _ hx));have h0:w3.cell? (V.at' a2 0)=some (.int .u8 (f:Int)):=(lQ a0 k0 hF).row.cell (j:=0) (v:=.int .u8 (f:Int)) rfl;have j0:=lQ a0 k0 hF;generalize hT:t.take (cnt f-1)=R at f0 ⊢;have d2:R.length=cnt f-1:=by rw [← hT];simp;omega
 have e1:∀ x∈R,x<256:=λ x hx=>y0 x (List.mem_of_mem_take (by rw [hT];exact hx));generalize hk:cnt f=k at *;clear hd hT y0;rw [show at'+1-1=at' by omega];repeat refine dD ?_
 apply T.any 7 [is _,is _,is _,is _,is _,is _,is _]
 ·rfl
 ·repeat' (first|exact aN|refine aK ?_ ?_)
  ·refine yQ λ wq _ _ g0=>?_;repeat refine dD ?_
   exact aD rfl yG rfl
  ·refine yQ λ wq _ _ g0=>?_;repeat (first|refine dD ?_|(refine aC (j:=0) rfl rfl rfl oM (Nat.mul_one _) ⟨_,_,j0.grow (by assumption)⟩ rfl ?_))
   exact aD rfl yG rfl
  ·refine yQ λ wq _ _ g0=>?_;have z1:=cell_grow g0 h0;repeat refine dD ?_
   exact aD rfl yG rfl
  ·refine yQ λ wq _ _ g0=>?_;repeat refine dD ?_
   exact aD rfl yG rfl
  ·refine yQ λ wq _ _ g0=>?_;repeat (first|(refine eS ?_;refine TL.shrB (a:=255) rfl rfl oM rfl ?_)|refine yA ?_)
   exact aD rfl yG rfl
  ·refine yQ λ wq _ _ g0=>?_;repeat (first|(refine TL.isAnd ?_;refine TL.andB rfl rfl hf (Nat.lt_of_le_of_lt (Nat.div_le_self _ _) dM) rfl ?_)|refine yA ?_)
   exact aD rfl yG rfl
  ·refine yQ λ wq _ _ g0=>?_;repeat (first|(refine eA ?_;refine TL.convU rfl (M:=18446744073709551616) rfl (Nat.lt_of_le_of_lt Nat.and_le_left oM) rfl ?_)|refine yA ?_)
   exact aD rfl yG rfl
 intro w4 r1 w1 m1 o0 n0;((refine yT ?_))
 repeat refine dD ?_
 refine aX (S:=Nat) (λ q=>[(55,.int .i64 (q:Int)),(54,.int .i64 ((k-1:Nat):Int)),(53,.slice a3 (k-1) c3),(8,.int .u64 (((R.take q).foldl kV (f&&&255 / 2^k):Nat):Int)),(6,.int .i64 (k:Int)),(5,.int .i64 (at':Int)),(0,.pointer (some ⟨b,0,none⟩))])
  (λ q v=>q≤k-1∧Grow w3 v) (λ q=>k-1-q) 0 ⟨rfl,rfl,rfl,rfl,rfl,rfl,rfl,trivial⟩ ⟨Nat.zero_le _,m1⟩ ?_
 rintro q w5 ⟨hq,l0⟩;have s0:=m0.grow l0;by_cases u1:q<k-1
 ·have hR:R[q]? = some (R.getD q 0):=by rw [List.getD_eq_getElem?_getD,List.getElem?_eq_getElem oM];rfl
  have hx:R.getD q 0<256:=e1 _ (List.mem_of_getElem? hR);have f1:R.take (q+1)=R.take q++[R.getD q 0]:=by rw [List.take_add_one,hR];rfl
  generalize R.getD q 0=x at *;have i0:=f0.grow l0;have q0:=i0.row.cell (j:=q) (v:=.int .u8 (x:Int)) (by simp [bB,hR]);repeat (first|(refine jR ?_;refine TL.shlW rfl rfl (M:=18446744073709551616) (p:=256) rfl rfl rfl rfl ?_)|(refine eA ?_;refine TL.convU rfl (M:=18446744073709551616) rfl oM rfl ?_)|(refine TL.isOr ?_;refine TL.orL (m:=256) rfl rfl (M:=18446744073709551616) rfl rfl rfl hx rfl rfl ?_)|refine yA ?_|(refine aC (j:=q) rfl rfl rfl oM (Nat.mul_one _) ⟨_,_,i0⟩ rfl ?_))
  exact aE (q+1) ⟨rfl,rfl,rfl,by rw [f1,List.foldl_append];rfl,rfl,rfl,rfl,trivial⟩ ⟨oM,l0⟩ oM
 ·obtain rfl:q=k-1:=by omega
  rw [List.take_of_length_le oM];have hV:=fold_lt R (f&&&255 / 2^k) (Nat.lt_of_le_of_lt Nat.and_le_left oM) e1;generalize R.foldl kV (f&&&255 / 2^k)=V at hV ⊢;have s1:=sz_le V;have x0:Mut b w w5:=(p0.trans k0).trans (iM l0);by_cases hz:sz V=k
  ·rw [if_pos hz];repeat (first|refine dD ?_|(refine aB 233 ?_;refine aA rfl (size_c V hV _) rfl ?_;rintro _ _ ⟨rfl,rfl⟩))
   refine bA rfl ⟨_,rfl,rfl,?_,x0⟩;rw [show at'+1+(k-1)=at'+k by omega] at s0;exact s0
  ·rw [if_neg hz];repeat (first|refine dD ?_|(refine aB 233 ?_;refine aA rfl (size_c V hV _) rfl ?_;rintro _ _ ⟨rfl,rfl⟩))
   refine aA rfl (fail_c b a n c (at'+1+(k-1)) 0 at' 4 _ s0) rfl ?_;rintro _ w6 ⟨o1,g1⟩;repeat refine dD ?_
   exact bA rfl ⟨_,rfl,rfl,o1,x0.trans g1⟩
end Go.Proofs.YtfpadnmdafiddaaGreatDoor
namespace Go.Proofs.YtfpadnmdafiddaaGreatDoor
theorem head_fact:∀ (s:Fin 10) (low:Fin 256),1≤s.1→low.1<2^(8-s.1) →
  cnt ((255*2^(9-s.1)%256)|||low.1)=s.1∧((255*2^(9-s.1)%256)|||low.1)&&&(255 / 2^s.1)=low.1:=by decide +kernel
theorem head_back:∀ f:Fin 256,(255*2^(9-cnt f.1)%256)|||(f.1&&&(255 / 2^cnt f.1))=f.1∧f.1&&&(255 / 2^cnt f.1)<2^(8-cnt f.1):=by decide +kernel
theorem p256 (j:Nat):2^(8*(j+1))=2^(8*j)*256:=by rw [show 8*(j+1)=8*j+8 by omega,Nat.pow_add]
theorem fold_big {n:Nat} (hn:n<18446744073709551616):∀ j,(big n j).foldl kV (n / 2^(8*j))=n
 | 0=>by simp [big]
 | j+1=>by
  have h:=fold_big hn j;simp only [big,List.foldl_cons];have hx:n / 2^(8*j)≤n:=Nat.div_le_self _ _
  have e:kV (n / 2^(8*(j+1))) (n / 2^(8*j)%256)=n / 2^(8*j):=by
   unfold kV;rw [p256,← Nat.div_div_eq_div_mul];generalize n / 2^(8*j)=x at *;omega
  rw [e];exact h
theorem lt_of_bl {a k:Nat} (h:bl a≤k):a<2^k:=by
 rcases Nat.lt_or_ge a (2^k) with h1|h1
 ·exact h1
 ·have:=bl_gt h1;omega
theorem low_lt {n:Nat} (hn:n<18446744073709551616):n / 2^(8*(sz n-1))<2^(8-sz n):=by
 have hs:=sz_le n;have hb:bl n≤64:=bl_le (by show n<18446744073709551616;exact hn);have a0:=lt_of_bl (Nat.le_refl (bl n));rw [Nat.div_lt_iff_lt_mul (Nat.two_pow_pos _),← Nat.pow_add];refine Nat.lt_of_lt_of_le a0 (Nat.pow_le_pow_right dM ?_);unfold sz at *;omega
theorem numV_enc {n:Nat} (hn:n<18446744073709551616) (r:List Nat):fV (encL n++r)=(n,sz n,0):=by
 have hs:=sz_le n;have hl:=low_lt hn;have e0:n / 2^(8*(sz n-1))<256:=Nat.lt_of_lt_of_le hl (by rw [show (256:Nat)=2^8 by decide];exact Nat.pow_le_pow_right dM oM);obtain ⟨h1,h2⟩:=head_fact ⟨sz n,oM⟩ ⟨_,e0⟩ hs.1 hl;simp only at h1 h2;have eh:head1 n (sz n)=(255*2^(9-sz n)%256)|||(n / 2^(8*(sz n-1))):=by unfold head1;rw [Nat.mod_eq_of_lt e0]
 have a0:=length_big n (sz n-1);simp only [encL,List.cons_append,fV,eh,h1];rw [if_neg (by simp [a0])]
 have et:(big n (sz n-1)++r).take (sz n-1)=big n (sz n-1):=by
  conv=>lhs;rw [← a0]
  rw [a0];exact List.take_left' a0
 rw [et,h2,fold_big hn,if_pos rfl]
theorem big_fold:∀ (R:List Nat) (low:Nat),(low+1)*2^(8*R.length)≤18446744073709551616→(∀ x∈R,x<256) →
  big (R.foldl kV low) R.length=R∧R.foldl kV low / 2^(8*R.length)=low
 | [],low,_,_=>by simp [big]
 | x::R,low,h,hR=>by
  have hx:=hR x sM;simp only [List.length_cons,p256] at h ⊢;have hp:=Nat.two_pow_pos (8*R.length);have h1:(low+1)*256*2^(8*R.length)≤18446744073709551616:=by rw [Nat.mul_assoc,Nat.mul_comm 256];exact h
  have h2:(low*256+x+1)*2^(8*R.length)≤18446744073709551616:=Nat.le_trans (Nat.mul_le_mul_right _ oM) h1;have h3:(low+1)*256≤18446744073709551616:=Nat.le_trans (Nat.le_mul_of_pos_right _ hp) h1;have es:kV low x=low*256+x:=by unfold kV;omega
  obtain ⟨i1,i2⟩:=big_fold R (low*256+x) h2 (λ y hy=>hR y (List.mem_cons_of_mem _ hy));simp only [List.foldl_cons,es];refine ⟨?_,?_⟩
  ·rw [big,i2,i1];congr 1
   omega
  ·rw [← Nat.div_div_eq_div_mul,i2];omega
theorem numV_back {r:List Nat} {v k:Nat} (hr:∀ x∈r,x<256) (h:fV r=(v,k,0)):r=encL v++r.drop k∧k=sz v∧v<18446744073709551616:=by
 cases r with
 | nil=>simp [fV] at h
 | cons f t =>
  have hf:=hr f sM;have hc:=cnt_bd (f:=f);obtain ⟨h1,h2⟩:=head_back ⟨f,hf⟩;simp only at h1 h2;simp only [fV] at h;split at h
  ·simp at h
  ·rename_i hs;split at h
   ·rename_i hz;simp only [Prod.mk.injEq,and_true] at h;obtain ⟨hv,hk⟩:=h;have a0:(t.take (cnt f-1)).length=cnt f-1:=by simp;omega
    have hR:∀ x∈t.take (cnt f-1),x<256:=λ x hx=>hr x (List.mem_cons_of_mem _ (List.mem_of_mem_take hx));have e0:f&&&(255 / 2^cnt f)<256:=Nat.lt_of_le_of_lt Nat.and_le_left hf;have f0:(f&&&(255 / 2^cnt f))+1≤2^(8-cnt f):=h2
    obtain ⟨b1,b2⟩:=big_fold (t.take (cnt f-1)) (f&&&(255 / 2^cnt f)) (by
     rw [a0];refine Nat.le_trans (Nat.mul_le_mul_right _ f0) ?_;rw [← Nat.pow_add]
     exact Nat.pow_le_pow_right (n:=2) (j:=64) dM oM) hR
    have g0:=fold_lt (t.take (cnt f-1)) (f&&&(255 / 2^cnt f)) oM hR;rw [hv] at b1 b2 hz g0;rw [a0] at b1 b2;refine ⟨?_,oM,g0⟩;subst hk
    have e1:encL v=f::t.take (cnt f-1):=by
     unfold encL head1;rw [hz,b1,b2,Nat.mod_eq_of_lt e0,h1]
    rw [e1];obtain ⟨m,hm⟩:∃ m,cnt f=m+1:=⟨cnt f-1,oM⟩
    rw [hm];simp
   ·simp at h
def jV (r:Bs):Option (Bs×Bs) :=
 if (fV r).2.2=0 then
  if (fV r).1≤(r.drop (fV r).2.1).length then some ((r.drop (fV r).2.1).take (fV r).1,(r.drop (fV r).2.1).drop (fV r).1) else none
 else none
def le4 (r:Bs):Nat:=r.getD 0 0+256*r.getD 1 0+65536*r.getD 2 0+16777216*r.getD 3 0
def rdWord (r:Bs):Option (Nat×Bs):=if 4≤r.length then some (le4 r,r.drop 4) else none
def iT:Nat→Bs→Option (bT×Bs)
 | 0,r=>some ([],r)
 | c+1,r=>match jV r with
  | none=>none
  | some (k,r1)=>match jV r1 with
   | none=>none
   | some (v,r2)=>match iT c r2 with
    | none=>none
    | some (l,r3)=>some ((k,v)::l,r3)
def kQ:Nat→Bs→Option (List Nat×Bs)
 | 0,r=>some ([],r)
 | c+1,r=>match rdWord r with
  | none=>none
  | some (k,r1)=>match kQ c r1 with
   | none=>none
   | some (l,r3)=>some (k::l,r3)
def kS:Nat→Bs→Option (List Bs×Bs)
 | 0,r=>some ([],r)
 | c+1,r=>match jV r with
  | none=>none
  | some (k,r1)=>match kS c r1 with
   | none=>none
   | some (l,r3)=>some (k::l,r3)
def finN (n:Nd) (r:Bs):Option Nd:=if r.all (λ x=>x==0)&&bF n then some n else none
def fX (b:Bs):Option Nd :=
 match b with
 | kd::c::r =>
  if 8<c then none
  else if kd=0 then (match iT c r with
   | none=>none
   | some (l,r1)=>finN ⟨l,[],[]⟩ r1)
  else if kd=1∧2≤c then (match kQ c r with
   | none=>none
   | some (l,r1)=>match kS (c-1) r1 with
    | none=>none
    | some (ks,r2)=>finN ⟨[],l,ks⟩ r2)
  else none
 | _=>none
theorem readN_ok {b:Bs} {n:Nd} (h:fX b=some n):bF n=true:=by
 have hf:∀ m r,finN m r=some n→bF n=true:=by
  intro m r h;unfold finN at h;split at h
  ·rename_i hc;cases h;exact (Bool.and_eq_true _ _▸hc).2
  ·cases h
 unfold fX at h;split at h
 ·split at h
  ·cases h
  ·split at h
   ·split at h
    ·cases h
    ·exact hf _ _ h
   ·split at h
    ·split at h
     ·cases h
     ·split at h
      ·cases h
      ·exact hf _ _ h
    ·cases h
 ·cases h
theorem rdBlk_enc {p:Bs} (hp:p.length<18446744073709551616) (t:Bs):jV (bS p++t)=some (p,t):=by
 unfold jV bS;rw [List.append_assoc,numV_enc hp]
 have e:(encL p.length++(p++t)).drop (sz p.length)=p++t:=by
  rw [← length_encL];exact List.drop_left' rfl
 simp only [e];simp
theorem rdWord_enc {n:Nat} (hn:n<4294967296) (t:Bs):rdWord (bP n++t)=some (n,t):=by
 unfold rdWord bP;simp [le4];omega
theorem rdItems_enc:∀ (l:bT) (t:Bs),(∀ x∈l,x.1.length<1000∧x.2.length<1000)→iT l.length (l.flatMap (λ x=>bS x.1++bS x.2)++t)=some (l,t)
 | [],t,_=>rfl
 | x::l,t,h=>by
  have hx:=h x sM;simp only [List.flatMap_cons,List.length_cons,iT,List.append_assoc];rw [rdBlk_enc oM];simp only;rw [rdBlk_enc oM];simp only;rw [rdItems_enc l t (λ y hy=>h y (List.mem_cons_of_mem _ hy))]
theorem rdKids_enc:∀ (l:List Nat) (t:Bs),(∀ x∈l,x<4294967296)→kQ l.length (l.flatMap bP++t)=some (l,t)
 | [],t,_=>rfl
 | x::l,t,h=>by
  have hx:=h x sM;simp only [List.flatMap_cons,List.length_cons,kQ,List.append_assoc];rw [rdWord_enc hx];simp only;rw [rdKids_enc l t (λ y hy=>h y (List.mem_cons_of_mem _ hy))]
theorem rdKeys_enc:∀ (l:List Bs) (t:Bs),(∀ x∈l,x.length<1000)→kS l.length (l.flatMap bS++t)=some (l,t)
 | [],t,_=>rfl
 | x::l,t,h=>by
  have hx:=h x sM;simp only [List.flatMap_cons,List.length_cons,kS,List.append_assoc];rw [rdBlk_enc oM];simp only;rw [rdKeys_enc l t (λ y hy=>h y (List.mem_cons_of_mem _ hy))]
theorem jP {f:Nat→Bool} {n:Nat} (h:gF f n=true) {i:Nat} (hi:i<n):f i=true:=List.all_eq_true.1 h i (List.mem_range.2 hi)
theorem nP {f:Nat→Bool} {n:Nat} (h:∀ i,i<n→f i=true):gF f n=true:=List.all_eq_true.2 λ i hi=>h i (List.mem_range.1 hi)
theorem mN {l:bT} (h:gF (gL l) l.length=true) {x:Bs×Bs} (hx:x∈l):dW x.1=true∧eR x.2=true:=by
 obtain ⟨i,hi,rfl⟩:=List.mem_iff_getElem.1 hx;have h:=jP h hi;simp only [gL,List.getElem?_eq_getElem hi,Bool.and_eq_true] at h;exact h.1
theorem key_ok' {l:List Bs} (h:gF (jF l) l.length=true) {x:Bs} (hx:x∈l):dW x=true:=by
 obtain ⟨i,hi,rfl⟩:=List.mem_iff_getElem.1 hx;have h:=jP h hi;simp only [jF,List.getElem?_eq_getElem hi,Bool.and_eq_true] at h;exact h.1
theorem kid_ok {l:List Nat} (h:gF (jW l) l.length=true) {x:Nat} (hx:x∈l):x<2147483648:=by
 obtain ⟨i,hi,rfl⟩:=List.mem_iff_getElem.1 hx;have h:=jP h hi;simp only [jW,List.getElem?_eq_getElem hi,Bool.and_eq_true,decide_eq_true_eq] at h;exact h.1
theorem eK {k:Bs} (h:dW k=true):1≤k.length∧k.length≤16:=by simpa [dW] using h
theorem iD {k:Bs} (h:eR k=true):k.length≤32:=by simpa [eR] using h
theorem cO {n:Nd} (h:wholeB n=true):n.items=[]∧2≤n.kids.length∧n.kids.length≤8∧n.keys.length+1=n.kids.length∧gF (jW n.kids) n.kids.length=true∧gF (jF n.keys) n.keys.length=true:=by
 simp only [wholeB,Bool.and_eq_true,decide_eq_true_eq,List.isEmpty_iff] at h;exact ⟨h.1.1.1.1.1,h.1.1.1.1.2,h.1.1.1.2,h.1.1.2,h.1.2,h.2⟩
theorem dG {n:Nd} (h:wholeL n=true):n.keys=[]∧n.items.length≤8∧gF (gL n.items) n.items.length=true:=by
 simp only [wholeL,Bool.and_eq_true,decide_eq_true_eq,List.isEmpty_iff] at h;exact ⟨h.1.1,h.1.2,h.2⟩
theorem bL {n:Nd}:bN n=true↔n.kids=[]:=List.isEmpty_iff
theorem all0 (n:Nat):(List.replicate n 0).all (λ x=>x==0)=true:=by
 rw [List.all_eq_true];intro x hx;have:=List.eq_of_mem_replicate hx;subst this;rfl
theorem readN_bytes {n:Nd} (h:bF n=true) (z:Nat):fX (dC n++List.replicate z 0)=some n:=by
 have hk:=h;unfold bF at h;unfold dC;split at h
 ·rename_i hl;obtain ⟨h1,h2,h3⟩:=dG h;have h4:=bL.1 hl;rw [if_pos hl];simp only [List.cons_append,List.nil_append,fX]
  rw [if_neg oM,if_pos trivial,rdItems_enc n.items _ (λ x hx=>by
   have:=mN h3 hx;have:=eK this.1;have:=iD (mN h3 hx).2
   omega)]
  simp only [finN];have e:(⟨n.items,[],[]⟩:Nd)=n:=by cases n;simp_all
  rw [e,all0,hk];rfl
 ·rename_i hl;obtain ⟨h1,h2,h3,h4,h5,h6⟩:=cO h;rw [if_neg hl];simp only [List.cons_append,List.nil_append,fX];rw [if_neg oM,if_neg oM,if_pos ⟨trivial,h2⟩,List.append_assoc,rdKids_enc n.kids _ (λ x hx=>by have:=kid_ok h5 hx;omega)];simp only;rw [show n.kids.length-1=n.keys.length by omega,rdKeys_enc n.keys _ (λ x hx=>by have:=eK (key_ok' h6 hx);omega)];simp only [finN];have e:(⟨[],n.kids,n.keys⟩:Nd)=n:=by cases n;simp_all
  rw [e,all0,hk];rfl
end Go.Proofs.YtfpadnmdafiddaaGreatDoor
