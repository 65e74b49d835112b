/-
  Runs of 'least', each once: part 1.
-/
import Derived.Test.YtklednomnpghcaaGreatDoorScopeLD
namespace Go.Proofs.YtklednomnpghcaaGreatDoor
open Go.Ev Go.RowKit ScopeLaw

theorem lr128 : LR [[97]] := by
  intro h vs Q; kernel_rfl
theorem lr129 : LR [[97], [98, 58, 99]] := by
  intro h vs Q; kernel_rfl
theorem lr130 : LR [[97], [98, 58, 42]] := by
  intro h vs Q; kernel_rfl
theorem lr131 : LR [[97], [98, 58, 42], [98, 58, 99]] := by
  intro h vs Q; kernel_rfl
theorem lr132 : LR [[97], [98]] := by
  intro h vs Q; kernel_rfl
theorem lr133 : LR [[97], [98], [98, 58, 99]] := by
  intro h vs Q; kernel_rfl
theorem lr134 : LR [[97], [98], [98, 58, 42]] := by
  intro h vs Q; kernel_rfl
theorem lr135 : LR [[97], [98], [98, 58, 42], [98, 58, 99]] := by
  intro h vs Q; kernel_rfl
theorem lr136 : LR [[97], [97, 58, 98, 58, 99]] := by
  intro h vs Q; kernel_rfl
theorem lr137 : LR [[97], [97, 58, 98, 58, 99], [98, 58, 99]] := by
  intro h vs Q; kernel_rfl
theorem lr138 : LR [[97], [97, 58, 98, 58, 99], [98, 58, 42]] := by
  intro h vs Q; kernel_rfl
theorem lr139 : LR [[97], [97, 58, 98, 58, 99], [98, 58, 42], [98, 58, 99]] := by
  intro h vs Q; kernel_rfl
theorem lr140 : LR [[97], [97, 58, 98, 58, 99], [98]] := by
  intro h vs Q; kernel_rfl
theorem lr141 : LR [[97], [97, 58, 98, 58, 99], [98], [98, 58, 99]] := by
  intro h vs Q; kernel_rfl
theorem lr142 : LR [[97], [97, 58, 98, 58, 99], [98], [98, 58, 42]] := by
  intro h vs Q; kernel_rfl
theorem lr143 : LR [[97], [97, 58, 98, 58, 99], [98], [98, 58, 42], [98, 58, 99]] := by
  intro h vs Q; kernel_rfl
theorem lr144 : LR [[97], [97, 58, 98, 58, 42]] := by
  intro h vs Q; kernel_rfl
theorem lr145 : LR [[97], [97, 58, 98, 58, 42], [98, 58, 99]] := by
  intro h vs Q; kernel_rfl
theorem lr146 : LR [[97], [97, 58, 98, 58, 42], [98, 58, 42]] := by
  intro h vs Q; kernel_rfl
theorem lr147 : LR [[97], [97, 58, 98, 58, 42], [98, 58, 42], [98, 58, 99]] := by
  intro h vs Q; kernel_rfl
theorem lr148 : LR [[97], [97, 58, 98, 58, 42], [98]] := by
  intro h vs Q; kernel_rfl
theorem lr149 : LR [[97], [97, 58, 98, 58, 42], [98], [98, 58, 99]] := by
  intro h vs Q; kernel_rfl
theorem lr150 : LR [[97], [97, 58, 98, 58, 42], [98], [98, 58, 42]] := by
  intro h vs Q; kernel_rfl
theorem lr151 : LR [[97], [97, 58, 98, 58, 42], [98], [98, 58, 42], [98, 58, 99]] := by
  intro h vs Q; kernel_rfl
theorem lr152 : LR [[97], [97, 58, 98, 58, 42], [97, 58, 98, 58, 99]] := by
  intro h vs Q; kernel_rfl
theorem lr153 : LR [[97], [97, 58, 98, 58, 42], [97, 58, 98, 58, 99], [98, 58, 99]] := by
  intro h vs Q; kernel_rfl
theorem lr154 : LR [[97], [97, 58, 98, 58, 42], [97, 58, 98, 58, 99], [98, 58, 42]] := by
  intro h vs Q; kernel_rfl
theorem lr155 : LR [[97], [97, 58, 98, 58, 42], [97, 58, 98, 58, 99], [98, 58, 42], [98, 58, 99]] := by
  intro h vs Q; kernel_rfl
theorem lr156 : LR [[97], [97, 58, 98, 58, 42], [97, 58, 98, 58, 99], [98]] := by
  intro h vs Q; kernel_rfl
theorem lr157 : LR [[97], [97, 58, 98, 58, 42], [97, 58, 98, 58, 99], [98], [98, 58, 99]] := by
  intro h vs Q; kernel_rfl
theorem lr158 : LR [[97], [97, 58, 98, 58, 42], [97, 58, 98, 58, 99], [98], [98, 58, 42]] := by
  intro h vs Q; kernel_rfl
theorem lr159 : LR [[97], [97, 58, 98, 58, 42], [97, 58, 98, 58, 99], [98], [98, 58, 42], [98, 58, 99]] := by
  intro h vs Q; kernel_rfl
theorem lr160 : LR [[97], [97, 58, 98]] := by
  intro h vs Q; kernel_rfl
theorem lr161 : LR [[97], [97, 58, 98], [98, 58, 99]] := by
  intro h vs Q; kernel_rfl
theorem lr162 : LR [[97], [97, 58, 98], [98, 58, 42]] := by
  intro h vs Q; kernel_rfl
theorem lr163 : LR [[97], [97, 58, 98], [98, 58, 42], [98, 58, 99]] := by
  intro h vs Q; kernel_rfl
theorem lr164 : LR [[97], [97, 58, 98], [98]] := by
  intro h vs Q; kernel_rfl
theorem lr165 : LR [[97], [97, 58, 98], [98], [98, 58, 99]] := by
  intro h vs Q; kernel_rfl
theorem lr166 : LR [[97], [97, 58, 98], [98], [98, 58, 42]] := by
  intro h vs Q; kernel_rfl
theorem lr167 : LR [[97], [97, 58, 98], [98], [98, 58, 42], [98, 58, 99]] := by
  intro h vs Q; kernel_rfl
theorem lr168 : LR [[97], [97, 58, 98], [97, 58, 98, 58, 99]] := by
  intro h vs Q; kernel_rfl
theorem lr169 : LR [[97], [97, 58, 98], [97, 58, 98, 58, 99], [98, 58, 99]] := by
  intro h vs Q; kernel_rfl
theorem lr170 : LR [[97], [97, 58, 98], [97, 58, 98, 58, 99], [98, 58, 42]] := by
  intro h vs Q; kernel_rfl
theorem lr171 : LR [[97], [97, 58, 98], [97, 58, 98, 58, 99], [98, 58, 42], [98, 58, 99]] := by
  intro h vs Q; kernel_rfl
theorem lr172 : LR [[97], [97, 58, 98], [97, 58, 98, 58, 99], [98]] := by
  intro h vs Q; kernel_rfl
theorem lr173 : LR [[97], [97, 58, 98], [97, 58, 98, 58, 99], [98], [98, 58, 99]] := by
  intro h vs Q; kernel_rfl
theorem lr174 : LR [[97], [97, 58, 98], [97, 58, 98, 58, 99], [98], [98, 58, 42]] := by
  intro h vs Q; kernel_rfl
theorem lr175 : LR [[97], [97, 58, 98], [97, 58, 98, 58, 99], [98], [98, 58, 42], [98, 58, 99]] := by
  intro h vs Q; kernel_rfl
theorem lr176 : LR [[97], [97, 58, 98], [97, 58, 98, 58, 42]] := by
  intro h vs Q; kernel_rfl
theorem lr177 : LR [[97], [97, 58, 98], [97, 58, 98, 58, 42], [98, 58, 99]] := by
  intro h vs Q; kernel_rfl
theorem lr178 : LR [[97], [97, 58, 98], [97, 58, 98, 58, 42], [98, 58, 42]] := by
  intro h vs Q; kernel_rfl
theorem lr179 : LR [[97], [97, 58, 98], [97, 58, 98, 58, 42], [98, 58, 42], [98, 58, 99]] := by
  intro h vs Q; kernel_rfl
theorem lr180 : LR [[97], [97, 58, 98], [97, 58, 98, 58, 42], [98]] := by
  intro h vs Q; kernel_rfl
theorem lr181 : LR [[97], [97, 58, 98], [97, 58, 98, 58, 42], [98], [98, 58, 99]] := by
  intro h vs Q; kernel_rfl
theorem lr182 : LR [[97], [97, 58, 98], [97, 58, 98, 58, 42], [98], [98, 58, 42]] := by
  intro h vs Q; kernel_rfl
theorem lr183 : LR [[97], [97, 58, 98], [97, 58, 98, 58, 42], [98], [98, 58, 42], [98, 58, 99]] := by
  intro h vs Q; kernel_rfl
theorem lr184 : LR [[97], [97, 58, 98], [97, 58, 98, 58, 42], [97, 58, 98, 58, 99]] := by
  intro h vs Q; kernel_rfl
theorem lr185 : LR [[97], [97, 58, 98], [97, 58, 98, 58, 42], [97, 58, 98, 58, 99], [98, 58, 99]] := by
  intro h vs Q; kernel_rfl
theorem lr186 : LR [[97], [97, 58, 98], [97, 58, 98, 58, 42], [97, 58, 98, 58, 99], [98, 58, 42]] := by
  intro h vs Q; kernel_rfl
theorem lr187 : LR [[97], [97, 58, 98], [97, 58, 98, 58, 42], [97, 58, 98, 58, 99], [98, 58, 42], [98, 58, 99]] := by
  intro h vs Q; kernel_rfl
theorem lr188 : LR [[97], [97, 58, 98], [97, 58, 98, 58, 42], [97, 58, 98, 58, 99], [98]] := by
  intro h vs Q; kernel_rfl
theorem lr189 : LR [[97], [97, 58, 98], [97, 58, 98, 58, 42], [97, 58, 98, 58, 99], [98], [98, 58, 99]] := by
  intro h vs Q; kernel_rfl
theorem lr190 : LR [[97], [97, 58, 98], [97, 58, 98, 58, 42], [97, 58, 98, 58, 99], [98], [98, 58, 42]] := by
  intro h vs Q; kernel_rfl
theorem lr191 : LR [[97], [97, 58, 98], [97, 58, 98, 58, 42], [97, 58, 98, 58, 99], [98], [98, 58, 42], [98, 58, 99]] := by
  intro h vs Q; kernel_rfl
theorem lr192 : LR [[97], [97, 58, 42]] := by
  intro h vs Q; kernel_rfl
theorem lr193 : LR [[97], [97, 58, 42], [98, 58, 99]] := by
  intro h vs Q; kernel_rfl
theorem lr194 : LR [[97], [97, 58, 42], [98, 58, 42]] := by
  intro h vs Q; kernel_rfl
theorem lr195 : LR [[97], [97, 58, 42], [98, 58, 42], [98, 58, 99]] := by
  intro h vs Q; kernel_rfl
theorem lr196 : LR [[97], [97, 58, 42], [98]] := by
  intro h vs Q; kernel_rfl
theorem lr197 : LR [[97], [97, 58, 42], [98], [98, 58, 99]] := by
  intro h vs Q; kernel_rfl
theorem lr198 : LR [[97], [97, 58, 42], [98], [98, 58, 42]] := by
  intro h vs Q; kernel_rfl
theorem lr199 : LR [[97], [97, 58, 42], [98], [98, 58, 42], [98, 58, 99]] := by
  intro h vs Q; kernel_rfl
theorem lr200 : LR [[97], [97, 58, 42], [97, 58, 98, 58, 99]] := by
  intro h vs Q; kernel_rfl
theorem lr201 : LR [[97], [97, 58, 42], [97, 58, 98, 58, 99], [98, 58, 99]] := by
  intro h vs Q; kernel_rfl
theorem lr202 : LR [[97], [97, 58, 42], [97, 58, 98, 58, 99], [98, 58, 42]] := by
  intro h vs Q; kernel_rfl
theorem lr203 : LR [[97], [97, 58, 42], [97, 58, 98, 58, 99], [98, 58, 42], [98, 58, 99]] := by
  intro h vs Q; kernel_rfl
theorem lr204 : LR [[97], [97, 58, 42], [97, 58, 98, 58, 99], [98]] := by
  intro h vs Q; kernel_rfl
theorem lr205 : LR [[97], [97, 58, 42], [97, 58, 98, 58, 99], [98], [98, 58, 99]] := by
  intro h vs Q; kernel_rfl
theorem lr206 : LR [[97], [97, 58, 42], [97, 58, 98, 58, 99], [98], [98, 58, 42]] := by
  intro h vs Q; kernel_rfl
theorem lr207 : LR [[97], [97, 58, 42], [97, 58, 98, 58, 99], [98], [98, 58, 42], [98, 58, 99]] := by
  intro h vs Q; kernel_rfl
theorem lr208 : LR [[97], [97, 58, 42], [97, 58, 98, 58, 42]] := by
  intro h vs Q; kernel_rfl
theorem lr209 : LR [[97], [97, 58, 42], [97, 58, 98, 58, 42], [98, 58, 99]] := by
  intro h vs Q; kernel_rfl
theorem lr210 : LR [[97], [97, 58, 42], [97, 58, 98, 58, 42], [98, 58, 42]] := by
  intro h vs Q; kernel_rfl
theorem lr211 : LR [[97], [97, 58, 42], [97, 58, 98, 58, 42], [98, 58, 42], [98, 58, 99]] := by
  intro h vs Q; kernel_rfl
theorem lr212 : LR [[97], [97, 58, 42], [97, 58, 98, 58, 42], [98]] := by
  intro h vs Q; kernel_rfl
theorem lr213 : LR [[97], [97, 58, 42], [97, 58, 98, 58, 42], [98], [98, 58, 99]] := by
  intro h vs Q; kernel_rfl
theorem lr214 : LR [[97], [97, 58, 42], [97, 58, 98, 58, 42], [98], [98, 58, 42]] := by
  intro h vs Q; kernel_rfl
theorem lr215 : LR [[97], [97, 58, 42], [97, 58, 98, 58, 42], [98], [98, 58, 42], [98, 58, 99]] := by
  intro h vs Q; kernel_rfl
theorem lr216 : LR [[97], [97, 58, 42], [97, 58, 98, 58, 42], [97, 58, 98, 58, 99]] := by
  intro h vs Q; kernel_rfl
theorem lr217 : LR [[97], [97, 58, 42], [97, 58, 98, 58, 42], [97, 58, 98, 58, 99], [98, 58, 99]] := by
  intro h vs Q; kernel_rfl
theorem lr218 : LR [[97], [97, 58, 42], [97, 58, 98, 58, 42], [97, 58, 98, 58, 99], [98, 58, 42]] := by
  intro h vs Q; kernel_rfl
theorem lr219 : LR [[97], [97, 58, 42], [97, 58, 98, 58, 42], [97, 58, 98, 58, 99], [98, 58, 42], [98, 58, 99]] := by
  intro h vs Q; kernel_rfl
theorem lr220 : LR [[97], [97, 58, 42], [97, 58, 98, 58, 42], [97, 58, 98, 58, 99], [98]] := by
  intro h vs Q; kernel_rfl
theorem lr221 : LR [[97], [97, 58, 42], [97, 58, 98, 58, 42], [97, 58, 98, 58, 99], [98], [98, 58, 99]] := by
  intro h vs Q; kernel_rfl
theorem lr222 : LR [[97], [97, 58, 42], [97, 58, 98, 58, 42], [97, 58, 98, 58, 99], [98], [98, 58, 42]] := by
  intro h vs Q; kernel_rfl
theorem lr223 : LR [[97], [97, 58, 42], [97, 58, 98, 58, 42], [97, 58, 98, 58, 99], [98], [98, 58, 42], [98, 58, 99]] := by
  intro h vs Q; kernel_rfl
theorem lr224 : LR [[97], [97, 58, 42], [97, 58, 98]] := by
  intro h vs Q; kernel_rfl
theorem lr225 : LR [[97], [97, 58, 42], [97, 58, 98], [98, 58, 99]] := by
  intro h vs Q; kernel_rfl
theorem lr226 : LR [[97], [97, 58, 42], [97, 58, 98], [98, 58, 42]] := by
  intro h vs Q; kernel_rfl
theorem lr227 : LR [[97], [97, 58, 42], [97, 58, 98], [98, 58, 42], [98, 58, 99]] := by
  intro h vs Q; kernel_rfl
theorem lr228 : LR [[97], [97, 58, 42], [97, 58, 98], [98]] := by
  intro h vs Q; kernel_rfl
theorem lr229 : LR [[97], [97, 58, 42], [97, 58, 98], [98], [98, 58, 99]] := by
  intro h vs Q; kernel_rfl
theorem lr230 : LR [[97], [97, 58, 42], [97, 58, 98], [98], [98, 58, 42]] := by
  intro h vs Q; kernel_rfl
theorem lr231 : LR [[97], [97, 58, 42], [97, 58, 98], [98], [98, 58, 42], [98, 58, 99]] := by
  intro h vs Q; kernel_rfl
theorem lr232 : LR [[97], [97, 58, 42], [97, 58, 98], [97, 58, 98, 58, 99]] := by
  intro h vs Q; kernel_rfl
theorem lr233 : LR [[97], [97, 58, 42], [97, 58, 98], [97, 58, 98, 58, 99], [98, 58, 99]] := by
  intro h vs Q; kernel_rfl
theorem lr234 : LR [[97], [97, 58, 42], [97, 58, 98], [97, 58, 98, 58, 99], [98, 58, 42]] := by
  intro h vs Q; kernel_rfl
theorem lr235 : LR [[97], [97, 58, 42], [97, 58, 98], [97, 58, 98, 58, 99], [98, 58, 42], [98, 58, 99]] := by
  intro h vs Q; kernel_rfl
theorem lr236 : LR [[97], [97, 58, 42], [97, 58, 98], [97, 58, 98, 58, 99], [98]] := by
  intro h vs Q; kernel_rfl
theorem lr237 : LR [[97], [97, 58, 42], [97, 58, 98], [97, 58, 98, 58, 99], [98], [98, 58, 99]] := by
  intro h vs Q; kernel_rfl
theorem lr238 : LR [[97], [97, 58, 42], [97, 58, 98], [97, 58, 98, 58, 99], [98], [98, 58, 42]] := by
  intro h vs Q; kernel_rfl
theorem lr239 : LR [[97], [97, 58, 42], [97, 58, 98], [97, 58, 98, 58, 99], [98], [98, 58, 42], [98, 58, 99]] := by
  intro h vs Q; kernel_rfl
theorem lr240 : LR [[97], [97, 58, 42], [97, 58, 98], [97, 58, 98, 58, 42]] := by
  intro h vs Q; kernel_rfl
theorem lr241 : LR [[97], [97, 58, 42], [97, 58, 98], [97, 58, 98, 58, 42], [98, 58, 99]] := by
  intro h vs Q; kernel_rfl
theorem lr242 : LR [[97], [97, 58, 42], [97, 58, 98], [97, 58, 98, 58, 42], [98, 58, 42]] := by
  intro h vs Q; kernel_rfl
theorem lr243 : LR [[97], [97, 58, 42], [97, 58, 98], [97, 58, 98, 58, 42], [98, 58, 42], [98, 58, 99]] := by
  intro h vs Q; kernel_rfl
theorem lr244 : LR [[97], [97, 58, 42], [97, 58, 98], [97, 58, 98, 58, 42], [98]] := by
  intro h vs Q; kernel_rfl
theorem lr245 : LR [[97], [97, 58, 42], [97, 58, 98], [97, 58, 98, 58, 42], [98], [98, 58, 99]] := by
  intro h vs Q; kernel_rfl
theorem lr246 : LR [[97], [97, 58, 42], [97, 58, 98], [97, 58, 98, 58, 42], [98], [98, 58, 42]] := by
  intro h vs Q; kernel_rfl
theorem lr247 : LR [[97], [97, 58, 42], [97, 58, 98], [97, 58, 98, 58, 42], [98], [98, 58, 42], [98, 58, 99]] := by
  intro h vs Q; kernel_rfl
theorem lr248 : LR [[97], [97, 58, 42], [97, 58, 98], [97, 58, 98, 58, 42], [97, 58, 98, 58, 99]] := by
  intro h vs Q; kernel_rfl
theorem lr249 : LR [[97], [97, 58, 42], [97, 58, 98], [97, 58, 98, 58, 42], [97, 58, 98, 58, 99], [98, 58, 99]] := by
  intro h vs Q; kernel_rfl
theorem lr250 : LR [[97], [97, 58, 42], [97, 58, 98], [97, 58, 98, 58, 42], [97, 58, 98, 58, 99], [98, 58, 42]] := by
  intro h vs Q; kernel_rfl
theorem lr251 : LR [[97], [97, 58, 42], [97, 58, 98], [97, 58, 98, 58, 42], [97, 58, 98, 58, 99], [98, 58, 42], [98, 58, 99]] := by
  intro h vs Q; kernel_rfl
theorem lr252 : LR [[97], [97, 58, 42], [97, 58, 98], [97, 58, 98, 58, 42], [97, 58, 98, 58, 99], [98]] := by
  intro h vs Q; kernel_rfl
theorem lr253 : LR [[97], [97, 58, 42], [97, 58, 98], [97, 58, 98, 58, 42], [97, 58, 98, 58, 99], [98], [98, 58, 99]] := by
  intro h vs Q; kernel_rfl
theorem lr254 : LR [[97], [97, 58, 42], [97, 58, 98], [97, 58, 98, 58, 42], [97, 58, 98, 58, 99], [98], [98, 58, 42]] := by
  intro h vs Q; kernel_rfl
theorem lr255 : LR [[97], [97, 58, 42], [97, 58, 98], [97, 58, 98, 58, 42], [97, 58, 98, 58, 99], [98], [98, 58, 42], [98, 58, 99]] := by
  intro h vs Q; kernel_rfl
end Go.Proofs.YtklednomnpghcaaGreatDoor
