import Derived.Test.YtbehdodaaobcdaaGreatDoorA28
import Derived.Test.YtbehdodaaobcdaaGreatDoorA29
set_option maxHeartbeats 4000000
namespace Go.AM
open Dist
set_option maxRecDepth 1000000
set_option maxHeartbeats 0
def cl0 : List OpI := [⟨1,0,0,0,1,0,0,0,1,0,0,0⟩,⟨1,0,0,0,1,0,0,0,1,12,12,0⟩,⟨-1,0,0,0,1,0,0,0,-1,0,0,0⟩,⟨-1,0,0,0,1,0,0,0,-1,12,12,0⟩]
theorem cl0_eq : closeL km0 = some cl0 := by kernel_rfl
theorem km0_ok : mapsE km0 = 0 := by kernel_rfl
def cl1 : List OpI := [⟨1,0,0,0,1,0,0,0,1,0,0,0⟩,⟨1,0,0,0,1,0,0,0,1,12,12,0⟩,⟨-1,0,0,0,1,0,0,0,-1,0,0,12⟩,⟨-1,0,0,0,-1,0,0,0,-1,0,0,0⟩,⟨-1,0,0,0,1,0,0,0,-1,12,12,12⟩,⟨-1,0,0,0,-1,0,0,0,-1,12,12,0⟩,⟨1,0,0,0,-1,0,0,0,1,0,0,12⟩,⟨1,0,0,0,-1,0,0,0,1,12,12,12⟩]
theorem cl1_eq : closeL km1 = some cl1 := by kernel_rfl
theorem km1_ok : mapsE km1 = 0 := by kernel_rfl
def cl3 : List OpI := [⟨1,0,0,0,1,0,0,0,1,0,0,0⟩,⟨1,0,0,0,1,0,0,0,1,0,12,12⟩,⟨1,0,0,0,1,0,0,0,1,12,0,12⟩,⟨-1,0,0,0,-1,0,0,0,1,18,18,0⟩,⟨-1,0,0,0,1,0,0,0,-1,18,0,18⟩,⟨-1,0,0,0,-1,0,0,0,-1,0,0,0⟩,⟨1,0,0,0,1,0,0,0,1,12,12,0⟩,⟨-1,0,0,0,-1,0,0,0,1,18,6,12⟩,⟨-1,0,0,0,1,0,0,0,-1,18,12,6⟩,⟨-1,0,0,0,-1,0,0,0,-1,0,12,12⟩,⟨-1,0,0,0,-1,0,0,0,1,6,18,12⟩,⟨-1,0,0,0,1,0,0,0,-1,6,0,6⟩,⟨-1,0,0,0,-1,0,0,0,-1,12,0,12⟩,⟨1,0,0,0,-1,0,0,0,-1,0,18,18⟩,⟨1,0,0,0,1,0,0,0,-1,6,6,0⟩,⟨1,0,0,0,-1,0,0,0,1,6,0,6⟩,⟨1,0,0,0,1,0,0,0,-1,18,18,0⟩,⟨1,0,0,0,-1,0,0,0,1,18,0,18⟩,⟨-1,0,0,0,-1,0,0,0,1,6,6,0⟩,⟨-1,0,0,0,1,0,0,0,-1,6,12,18⟩,⟨-1,0,0,0,-1,0,0,0,-1,12,12,0⟩,⟨1,0,0,0,-1,0,0,0,-1,0,6,6⟩,⟨1,0,0,0,1,0,0,0,-1,6,18,12⟩,⟨1,0,0,0,-1,0,0,0,1,6,12,18⟩,⟨1,0,0,0,1,0,0,0,-1,18,6,12⟩,⟨1,0,0,0,-1,0,0,0,1,18,12,6⟩,⟨1,0,0,0,-1,0,0,0,-1,12,18,6⟩,⟨-1,0,0,0,1,0,0,0,1,0,6,6⟩,⟨-1,0,0,0,1,0,0,0,1,12,6,18⟩,⟨-1,0,0,0,1,0,0,0,1,12,18,6⟩,⟨-1,0,0,0,1,0,0,0,1,0,18,18⟩,⟨1,0,0,0,-1,0,0,0,-1,12,6,18⟩]
theorem cl3_eq : closeL km3 = some cl3 := by kernel_rfl
theorem km3_ok : mapsE km3 = 0 := by kernel_rfl
def cl5 : List OpI := [⟨1,0,0,0,1,0,0,0,1,0,0,0⟩,⟨1,0,0,0,1,0,0,0,1,12,12,12⟩,⟨-1,0,0,0,-1,0,0,0,1,12,0,12⟩,⟨-1,0,0,0,1,0,0,0,-1,0,12,12⟩,⟨0,0,1,1,0,0,0,1,0,0,0,0⟩,⟨0,1,0,1,0,0,0,0,-1,18,6,6⟩,⟨-1,0,0,0,-1,0,0,0,-1,0,0,0⟩,⟨-1,0,0,0,-1,0,0,0,1,0,12,0⟩,⟨-1,0,0,0,1,0,0,0,-1,12,0,0⟩,⟨0,0,1,1,0,0,0,1,0,12,12,12⟩,⟨0,1,0,1,0,0,0,0,-1,6,18,18⟩,⟨-1,0,0,0,-1,0,0,0,-1,12,12,12⟩,⟨1,0,0,0,-1,0,0,0,-1,12,12,0⟩,⟨0,0,1,-1,0,0,0,-1,0,12,12,0⟩,⟨0,-1,0,-1,0,0,0,0,-1,18,18,18⟩,⟨1,0,0,0,1,0,0,0,-1,12,0,12⟩,⟨0,0,-1,-1,0,0,0,1,0,12,0,12⟩,⟨0,1,0,-1,0,0,0,0,1,6,6,18⟩,⟨1,0,0,0,-1,0,0,0,1,0,12,12⟩,⟨0,0,-1,1,0,0,0,-1,0,0,12,12⟩,⟨0,1,0,0,0,1,1,0,0,0,0,0⟩,⟨1,0,0,0,0,1,0,-1,0,18,6,6⟩,⟨0,0,-1,-1,0,0,0,-1,0,0,0,0⟩,⟨0,-1,0,1,0,0,0,0,1,6,18,6⟩,⟨0,0,-1,0,1,0,1,0,0,6,18,6⟩,⟨0,-1,0,-1,0,0,0,0,1,6,18,18⟩,⟨0,-1,0,-1,0,0,0,0,1,18,6,6⟩,⟨1,0,0,0,-1,0,0,0,-1,0,0,12⟩,⟨0,0,1,-1,0,0,0,-1,0,0,0,12⟩,⟨0,-1,0,-1,0,0,0,0,-1,6,6,6⟩,⟨1,0,0,0,1,0,0,0,-1,0,12,0⟩,⟨0,0,-1,-1,0,0,0,1,0,0,12,0⟩,⟨0,1,0,-1,0,0,0,0,1,18,18,6⟩,⟨1,0,0,0,-1,0,0,0,1,12,0,0⟩,⟨0,0,-1,1,0,0,0,-1,0,12,0,0⟩,⟨0,1,0,0,0,1,1,0,0,12,12,12⟩,⟨1,0,0,0,0,1,0,-1,0,6,18,18⟩,⟨0,0,-1,-1,0,0,0,-1,0,12,12,12⟩,⟨0,-1,0,1,0,0,0,0,1,18,6,18⟩,⟨0,0,-1,0,1,0,1,0,0,18,6,18⟩,⟨-1,0,0,0,1,0,0,0,1,12,12,0⟩,⟨0,-1,0,0,0,1,-1,0,0,0,12,12⟩,⟨-1,0,0,0,0,1,0,1,0,6,18,6⟩,⟨0,0,-1,1,0,0,0,1,0,12,12,0⟩,⟨0,0,-1,0,-1,0,-1,0,0,18,18,18⟩,⟨0,1,0,1,0,0,0,0,1,6,6,6⟩,⟨0,1,0,1,0,0,0,0,1,18,18,18⟩,⟨0,1,0,0,0,-1,-1,0,0,12,12,0⟩,⟨-1,0,0,0,0,-1,0,-1,0,18,18,18⟩,⟨0,0,1,1,0,0,0,-1,0,12,0,12⟩,⟨0,0,1,0,1,0,-1,0,0,18,6,6⟩,⟨0,-1,0,1,0,0,0,0,-1,18,18,6⟩,⟨0,-1,0,1,0,0,0,0,-1,6,6,18⟩,⟨0,-1,0,0,0,-1,1,0,0,12,0,12⟩,⟨1,0,0,0,0,-1,0,1,0,6,6,18⟩,⟨0,0,1,-1,0,0,0,1,0,0,12,12⟩,⟨0,-1,0,0,0,-1,-1,0,0,0,0,0⟩,⟨-1,0,0,0,0,-1,0,1,0,6,18,18⟩,⟨-1,0,0,0,0,-1,0,1,0,18,6,6⟩,⟨0,0,1,0,-1,0,1,0,0,6,6,18⟩,⟨0,1,0,-1,0,0,0,0,-1,18,6,18⟩,⟨0,0,1,0,-1,0,-1,0,0,18,6,18⟩,⟨0,1,0,-1,0,0,0,0,-1,6,18,6⟩,⟨0,0,1,0,-1,0,-1,0,0,6,18,6⟩,⟨-1,0,0,0,1,0,0,0,1,0,0,12⟩,⟨0,-1,0,0,0,1,-1,0,0,12,0,0⟩,⟨-1,0,0,0,0,1,0,1,0,18,6,18⟩,⟨0,0,-1,1,0,0,0,1,0,0,0,12⟩,⟨0,0,-1,0,-1,0,-1,0,0,6,6,6⟩,⟨0,1,0,0,0,-1,-1,0,0,0,0,12⟩,⟨-1,0,0,0,0,-1,0,-1,0,6,6,6⟩,⟨0,0,1,1,0,0,0,-1,0,0,12,0⟩,⟨0,0,1,0,1,0,-1,0,0,6,18,18⟩,⟨0,-1,0,0,0,-1,1,0,0,0,12,0⟩,⟨1,0,0,0,0,-1,0,1,0,18,18,6⟩,⟨0,0,1,-1,0,0,0,1,0,12,0,0⟩,⟨0,-1,0,0,0,-1,-1,0,0,12,12,12⟩,⟨0,0,1,0,-1,0,1,0,0,18,18,6⟩,⟨0,1,0,0,0,-1,1,0,0,0,12,12⟩,⟨1,0,0,0,0,-1,0,-1,0,18,6,18⟩,⟨1,0,0,0,0,-1,0,-1,0,6,18,6⟩,⟨0,0,1,0,1,0,1,0,0,6,6,6⟩,⟨0,0,1,0,1,0,1,0,0,18,18,18⟩,⟨0,-1,0,0,0,1,1,0,0,12,12,0⟩,⟨1,0,0,0,0,1,0,1,0,6,6,6⟩,⟨1,0,0,0,0,1,0,1,0,18,18,18⟩,⟨0,0,-1,0,-1,0,1,0,0,6,18,18⟩,⟨0,0,-1,0,-1,0,1,0,0,18,6,6⟩,⟨0,1,0,0,0,1,-1,0,0,12,0,12⟩,⟨-1,0,0,0,0,1,0,-1,0,18,18,6⟩,⟨-1,0,0,0,0,1,0,-1,0,6,6,18⟩,⟨0,0,-1,0,1,0,-1,0,0,18,18,6⟩,⟨0,-1,0,0,0,1,1,0,0,0,0,12⟩,⟨0,0,-1,0,1,0,-1,0,0,6,6,18⟩,⟨0,1,0,0,0,-1,1,0,0,12,0,0⟩,⟨0,1,0,0,0,1,-1,0,0,0,12,0⟩]
theorem cl5_eq : closeL km5 = some cl5 := by kernel_rfl
theorem km5_ok : mapsE km5 = 0 := by kernel_rfl
def cl6 : List OpI := [⟨1,0,0,0,1,0,0,0,1,0,0,0⟩,⟨-1,0,0,0,-1,0,0,0,-1,0,0,0⟩]
theorem cl6_eq : closeL km6 = some cl6 := by kernel_rfl
theorem km6_ok : mapsE km6 = 0 := by kernel_rfl
def cl7 : List OpI := [⟨1,0,0,0,1,0,0,0,1,0,0,0⟩]
theorem cl7_eq : closeL km7 = some cl7 := by kernel_rfl
theorem km7_ok : mapsE km7 = 0 := by kernel_rfl
def cl8 : List OpI := [⟨1,0,0,0,1,0,0,0,1,0,0,0⟩,⟨-1,0,0,0,1,0,0,0,-1,0,0,0⟩]
theorem cl8_eq : closeL km8 = some cl8 := by kernel_rfl
theorem km8_ok : mapsE km8 = 0 := by kernel_rfl
def cl9 : List OpI := [⟨1,0,0,0,1,0,0,0,1,0,0,0⟩,⟨-1,0,0,0,1,0,0,0,-1,0,0,0⟩,⟨-1,0,0,0,-1,0,0,0,-1,0,0,0⟩,⟨1,0,0,0,-1,0,0,0,1,0,0,0⟩]
theorem cl9_eq : closeL km9 = some cl9 := by kernel_rfl
theorem km9_ok : mapsE km9 = 0 := by kernel_rfl
def cl10 : List OpI := [⟨1,0,0,0,1,0,0,0,1,0,0,0⟩,⟨-1,0,0,0,1,0,0,0,-1,0,12,0⟩]
theorem cl10_eq : closeL km10 = some cl10 := by kernel_rfl
theorem km10_ok : mapsE km10 = 0 := by kernel_rfl
def cl11 : List OpI := [⟨1,0,0,0,1,0,0,0,1,0,0,0⟩,⟨-1,0,0,0,1,0,0,0,-1,0,12,12⟩,⟨-1,0,0,0,-1,0,0,0,-1,0,0,0⟩,⟨1,0,0,0,-1,0,0,0,1,0,12,12⟩]
theorem cl11_eq : closeL km11 = some cl11 := by kernel_rfl
theorem km11_ok : mapsE km11 = 0 := by kernel_rfl
def cl12 : List OpI := [⟨1,0,0,0,1,0,0,0,1,0,0,0⟩,⟨-1,0,0,0,-1,0,0,0,1,12,0,12⟩,⟨-1,0,0,0,1,0,0,0,-1,0,12,12⟩,⟨1,0,0,0,-1,0,0,0,-1,12,12,0⟩]
theorem cl12_eq : closeL km12 = some cl12 := by kernel_rfl
theorem km12_ok : mapsE km12 = 0 := by kernel_rfl
def cl13 : List OpI := [⟨1,0,0,0,1,0,0,0,1,0,0,0⟩,⟨-1,0,0,0,-1,0,0,0,1,0,0,0⟩,⟨-1,0,0,0,1,0,0,0,-1,0,0,0⟩,⟨1,0,0,0,-1,0,0,0,-1,0,0,0⟩]
theorem cl13_eq : closeL km13 = some cl13 := by kernel_rfl
theorem km13_ok : mapsE km13 = 0 := by kernel_rfl
def cl14 : List OpI := [⟨1,0,0,0,1,0,0,0,1,0,0,0⟩,⟨-1,0,0,0,-1,0,0,0,1,0,0,0⟩,⟨-1,0,0,0,1,0,0,0,-1,0,0,0⟩,⟨0,0,1,1,0,0,0,1,0,0,0,0⟩,⟨1,0,0,0,-1,0,0,0,-1,0,0,0⟩,⟨0,0,1,-1,0,0,0,-1,0,0,0,0⟩,⟨0,0,-1,-1,0,0,0,1,0,0,0,0⟩,⟨0,0,-1,1,0,0,0,-1,0,0,0,0⟩,⟨0,1,0,0,0,1,1,0,0,0,0,0⟩,⟨0,-1,0,0,0,1,-1,0,0,0,0,0⟩,⟨0,1,0,0,0,-1,-1,0,0,0,0,0⟩,⟨0,-1,0,0,0,-1,1,0,0,0,0,0⟩]
theorem cl14_eq : closeL km14 = some cl14 := by kernel_rfl
theorem km14_ok : mapsE km14 = 0 := by kernel_rfl
def cl15 : List OpI := [⟨1,0,0,0,1,0,0,0,1,0,0,0⟩,⟨0,-1,0,1,-1,0,0,0,1,0,0,0⟩,⟨-1,1,0,-1,0,0,0,0,1,0,0,0⟩]
theorem cl15_eq : closeL km15 = some cl15 := by kernel_rfl
theorem km15_ok : mapsE km15 = 0 := by kernel_rfl
def cl16 : List OpI := [⟨1,0,0,0,1,0,0,0,1,0,0,0⟩,⟨0,-1,0,1,-1,0,0,0,1,0,0,8⟩,⟨-1,1,0,-1,0,0,0,0,1,0,0,16⟩]
theorem cl16_eq : closeL km16 = some cl16 := by kernel_rfl
theorem km16_ok : mapsE km16 = 0 := by kernel_rfl
def cl17 : List OpI := [⟨1,0,0,0,1,0,0,0,1,0,0,0⟩,⟨0,-1,0,1,0,0,0,0,1,0,0,0⟩,⟨-1,0,0,0,-1,0,0,0,1,0,0,0⟩,⟨0,1,0,-1,0,0,0,0,1,0,0,0⟩]
theorem cl17_eq : closeL km17 = some cl17 := by kernel_rfl
theorem km17_ok : mapsE km17 = 0 := by kernel_rfl
def cl18 : List OpI := [⟨1,0,0,0,1,0,0,0,1,0,0,0⟩,⟨0,-1,0,1,0,0,0,0,1,0,0,0⟩,⟨-1,0,0,0,1,0,0,0,-1,0,0,0⟩,⟨-1,0,0,0,-1,0,0,0,-1,0,0,0⟩,⟨-1,0,0,0,-1,0,0,0,1,0,0,0⟩,⟨0,1,0,1,0,0,0,0,-1,0,0,0⟩,⟨0,1,0,-1,0,0,0,0,-1,0,0,0⟩,⟨0,-1,0,-1,0,0,0,0,-1,0,0,0⟩,⟨1,0,0,0,-1,0,0,0,1,0,0,0⟩,⟨0,1,0,-1,0,0,0,0,1,0,0,0⟩,⟨1,0,0,0,-1,0,0,0,-1,0,0,0⟩,⟨1,0,0,0,1,0,0,0,-1,0,0,0⟩,⟨0,-1,0,-1,0,0,0,0,1,0,0,0⟩,⟨0,1,0,1,0,0,0,0,1,0,0,0⟩,⟨0,-1,0,1,0,0,0,0,-1,0,0,0⟩,⟨-1,0,0,0,1,0,0,0,1,0,0,0⟩]
theorem cl18_eq : closeL km18 = some cl18 := by kernel_rfl
theorem km18_ok : mapsE km18 = 0 := by kernel_rfl
def cl19 : List OpI := [⟨1,0,0,0,1,0,0,0,1,0,0,0⟩,⟨0,-1,0,1,0,0,0,0,1,0,0,6⟩,⟨-1,0,0,0,-1,0,0,0,1,0,0,12⟩,⟨0,1,0,-1,0,0,0,0,1,0,0,18⟩]
theorem cl19_eq : closeL km19 = some cl19 := by kernel_rfl
theorem km19_ok : mapsE km19 = 0 := by kernel_rfl
def cl20 : List OpI := [⟨1,0,0,0,1,0,0,0,1,0,0,0⟩,⟨1,-1,0,1,0,0,0,0,1,0,0,0⟩,⟨0,-1,0,1,-1,0,0,0,1,0,0,0⟩,⟨-1,0,0,0,-1,0,0,0,1,0,0,0⟩,⟨-1,1,0,-1,0,0,0,0,1,0,0,0⟩,⟨0,1,0,-1,1,0,0,0,1,0,0,0⟩]
theorem cl20_eq : closeL km20 = some cl20 := by kernel_rfl
theorem km20_ok : mapsE km20 = 0 := by kernel_rfl
def cl21 : List OpI := [⟨1,0,0,0,1,0,0,0,1,0,0,0⟩,⟨1,-1,0,1,0,0,0,0,1,0,0,12⟩,⟨0,1,0,1,0,0,0,0,-1,0,0,0⟩,⟨-1,0,0,0,-1,0,0,0,-1,0,0,0⟩,⟨0,-1,0,1,-1,0,0,0,1,0,0,0⟩,⟨1,0,0,1,-1,0,0,0,-1,0,0,12⟩,⟨-1,1,0,-1,0,0,0,0,-1,0,0,12⟩,⟨-1,1,0,0,1,0,0,0,-1,0,0,12⟩,⟨0,-1,0,-1,0,0,0,0,1,0,0,0⟩,⟨-1,0,0,0,-1,0,0,0,1,0,0,12⟩,⟨1,-1,0,0,-1,0,0,0,-1,0,0,0⟩,⟨0,1,0,-1,1,0,0,0,-1,0,0,0⟩,⟨-1,0,0,-1,1,0,0,0,1,0,0,12⟩,⟨-1,0,0,-1,1,0,0,0,-1,0,0,0⟩,⟨0,1,0,-1,1,0,0,0,1,0,0,12⟩,⟨1,-1,0,0,-1,0,0,0,1,0,0,12⟩,⟨-1,1,0,-1,0,0,0,0,1,0,0,0⟩,⟨0,-1,0,-1,0,0,0,0,-1,0,0,12⟩,⟨1,0,0,0,1,0,0,0,-1,0,0,12⟩,⟨-1,1,0,0,1,0,0,0,1,0,0,0⟩,⟨1,0,0,1,-1,0,0,0,1,0,0,0⟩,⟨0,-1,0,1,-1,0,0,0,-1,0,0,12⟩,⟨1,-1,0,1,0,0,0,0,-1,0,0,0⟩,⟨0,1,0,1,0,0,0,0,1,0,0,12⟩]
theorem cl21_eq : closeL km21 = some cl21 := by kernel_rfl
theorem km21_ok : mapsE km21 = 0 := by kernel_rfl
def cl22 : List OpI := [⟨1,0,0,0,1,0,0,0,1,0,0,0⟩,⟨1,0,0,0,-1,0,0,0,1,0,0,12⟩]
theorem cl22_eq : closeL km22 = some cl22 := by kernel_rfl
theorem km22_ok : mapsE km22 = 0 := by kernel_rfl
def cl23 : List OpI := [⟨1,0,0,0,1,0,0,0,1,0,0,0⟩,⟨1,0,0,0,-1,0,0,0,1,0,0,0⟩]
theorem cl23_eq : closeL km23 = some cl23 := by kernel_rfl
theorem km23_ok : mapsE km23 = 0 := by kernel_rfl
def cl24 : List OpI := [⟨1,0,0,0,1,0,0,0,1,0,0,0⟩,⟨-1,0,0,0,-1,0,0,0,1,0,0,0⟩,⟨-1,0,0,0,1,0,0,0,-1,0,0,0⟩,⟨0,0,1,1,0,0,0,1,0,0,0,0⟩,⟨0,1,0,1,0,0,0,0,-1,0,0,0⟩,⟨-1,0,0,0,-1,0,0,0,-1,0,0,0⟩,⟨1,0,0,0,-1,0,0,0,-1,0,0,0⟩,⟨0,0,1,-1,0,0,0,-1,0,0,0,0⟩,⟨0,-1,0,-1,0,0,0,0,-1,0,0,0⟩,⟨1,0,0,0,1,0,0,0,-1,0,0,0⟩,⟨0,0,-1,-1,0,0,0,1,0,0,0,0⟩,⟨0,1,0,-1,0,0,0,0,1,0,0,0⟩,⟨1,0,0,0,-1,0,0,0,1,0,0,0⟩,⟨0,0,-1,1,0,0,0,-1,0,0,0,0⟩,⟨0,1,0,0,0,1,1,0,0,0,0,0⟩,⟨1,0,0,0,0,1,0,-1,0,0,0,0⟩,⟨0,0,-1,-1,0,0,0,-1,0,0,0,0⟩,⟨0,-1,0,1,0,0,0,0,1,0,0,0⟩,⟨0,0,-1,0,1,0,1,0,0,0,0,0⟩,⟨0,-1,0,-1,0,0,0,0,1,0,0,0⟩,⟨-1,0,0,0,1,0,0,0,1,0,0,0⟩,⟨0,-1,0,0,0,1,-1,0,0,0,0,0⟩,⟨-1,0,0,0,0,1,0,1,0,0,0,0⟩,⟨0,0,-1,1,0,0,0,1,0,0,0,0⟩,⟨0,0,-1,0,-1,0,-1,0,0,0,0,0⟩,⟨0,1,0,1,0,0,0,0,1,0,0,0⟩,⟨0,1,0,0,0,-1,-1,0,0,0,0,0⟩,⟨-1,0,0,0,0,-1,0,-1,0,0,0,0⟩,⟨0,0,1,1,0,0,0,-1,0,0,0,0⟩,⟨0,0,1,0,1,0,-1,0,0,0,0,0⟩,⟨0,-1,0,1,0,0,0,0,-1,0,0,0⟩,⟨0,-1,0,0,0,-1,1,0,0,0,0,0⟩,⟨1,0,0,0,0,-1,0,1,0,0,0,0⟩,⟨0,0,1,-1,0,0,0,1,0,0,0,0⟩,⟨0,-1,0,0,0,-1,-1,0,0,0,0,0⟩,⟨-1,0,0,0,0,-1,0,1,0,0,0,0⟩,⟨0,0,1,0,-1,0,1,0,0,0,0,0⟩,⟨0,1,0,-1,0,0,0,0,-1,0,0,0⟩,⟨0,0,1,0,-1,0,-1,0,0,0,0,0⟩,⟨0,1,0,0,0,-1,1,0,0,0,0,0⟩,⟨1,0,0,0,0,-1,0,-1,0,0,0,0⟩,⟨0,0,1,0,1,0,1,0,0,0,0,0⟩,⟨0,-1,0,0,0,1,1,0,0,0,0,0⟩,⟨1,0,0,0,0,1,0,1,0,0,0,0⟩,⟨0,0,-1,0,-1,0,1,0,0,0,0,0⟩,⟨0,1,0,0,0,1,-1,0,0,0,0,0⟩,⟨-1,0,0,0,0,1,0,-1,0,0,0,0⟩,⟨0,0,-1,0,1,0,-1,0,0,0,0,0⟩]
theorem cl24_eq : closeL km24 = some cl24 := by kernel_rfl
theorem km24_ok : mapsE km24 = 0 := by kernel_rfl
def cl25 : List OpI := [⟨1,0,0,0,1,0,0,0,1,0,0,0⟩,⟨-1,0,0,0,-1,0,0,0,1,12,0,12⟩,⟨-1,0,0,0,1,0,0,0,-1,0,12,0⟩,⟨-1,0,0,0,-1,0,0,0,-1,0,0,0⟩,⟨1,0,0,0,-1,0,0,0,-1,12,12,12⟩,⟨1,0,0,0,1,0,0,0,-1,12,0,12⟩,⟨1,0,0,0,-1,0,0,0,1,0,12,0⟩,⟨-1,0,0,0,1,0,0,0,1,12,12,12⟩]
theorem cl25_eq : closeL km25 = some cl25 := by kernel_rfl
theorem km25_ok : mapsE km25 = 0 := by kernel_rfl
def cl26 : List OpI := [⟨1,0,0,0,1,0,0,0,1,0,0,0⟩,⟨1,0,0,0,1,0,0,0,1,16,8,8⟩,⟨0,-1,0,1,-1,0,0,0,1,0,0,0⟩,⟨1,0,0,0,1,0,0,0,1,8,16,16⟩,⟨0,-1,0,1,-1,0,0,0,1,16,8,8⟩,⟨-1,1,0,-1,0,0,0,0,1,0,0,0⟩,⟨0,-1,0,1,-1,0,0,0,1,8,16,16⟩,⟨-1,1,0,-1,0,0,0,0,1,16,8,8⟩,⟨-1,1,0,-1,0,0,0,0,1,8,16,16⟩]
theorem cl26_eq : closeL km26 = some cl26 := by kernel_rfl
theorem km26_ok : mapsE km26 = 0 := by kernel_rfl
end Go.AM
open Go Go.AM Go.Proofs
namespace Go.AM
open Dist
theorem closeE_of {m l : List OpI} (h : closeL m = some l) (k : mapsE m = 0) : closeE m = 0 := by
  unfold closeE
  rw [if_neg (by simpa using k), h]
theorem closeR_of {m l : List OpI} (h : closeL m = some l) (k : mapsE m = 0) : closeR m = sortO l := by
  unfold closeR
  rw [if_neg (by simpa using k), h]
theorem known_ok : ∀ q ∈ knownL, closeE q.2 = 0 := by
  intro q hq
  simp only [knownL, List.mem_cons, List.not_mem_nil, or_false] at hq
  rcases hq with rfl | rfl | rfl | rfl | rfl | rfl | rfl | rfl | rfl | rfl | rfl | rfl | rfl | rfl | rfl | rfl | rfl | rfl | rfl | rfl | rfl | rfl | rfl | rfl | rfl | rfl | rfl
  · exact closeE_of cl0_eq km0_ok
  · exact closeE_of cl1_eq km1_ok
  · exact closeE_of cl2_eq km2_ok
  · exact closeE_of cl3_eq km3_ok
  · exact closeE_of cl4_eq km4_ok
  · exact closeE_of cl5_eq km5_ok
  · exact closeE_of cl6_eq km6_ok
  · exact closeE_of cl7_eq km7_ok
  · exact closeE_of cl8_eq km8_ok
  · exact closeE_of cl9_eq km9_ok
  · exact closeE_of cl10_eq km10_ok
  · exact closeE_of cl11_eq km11_ok
  · exact closeE_of cl12_eq km12_ok
  · exact closeE_of cl13_eq km13_ok
  · exact closeE_of cl14_eq km14_ok
  · exact closeE_of cl15_eq km15_ok
  · exact closeE_of cl16_eq km16_ok
  · exact closeE_of cl17_eq km17_ok
  · exact closeE_of cl18_eq km18_ok
  · exact closeE_of cl19_eq km19_ok
  · exact closeE_of cl20_eq km20_ok
  · exact closeE_of cl21_eq km21_ok
  · exact closeE_of cl22_eq km22_ok
  · exact closeE_of cl23_eq km23_ok
  · exact closeE_of cl24_eq km24_ok
  · exact closeE_of cl25_eq km25_ok
  · exact closeE_of cl26_eq km26_ok
theorem lookK_mem {s : List UInt8} {m : List OpI} : ∀ {l : List (List UInt8 × List OpI)}, lookK s l = some m → (s, m) ∈ l
  | [], h => by cases h
  | (n, m') :: l, h => by
    unfold lookK at h
    split at h
    · rename_i e
      cases h
      rw [e]
      exact List.mem_cons_self ..
    · exact List.mem_cons_of_mem _ (lookK_mem h)
def grpT (s : List UInt8) : Int := match lookK s knownL with
  | some _ => 0
  | none => 13
theorem grpE_T (s : List UInt8) : grpE s = grpT s := by
  unfold grpE grpT
  cases h : lookK s knownL with
  | none => rfl
  | some m => exact known_ok _ (lookK_mem h)
def qGroupL : FSpec := fun args => match args with
  | [.v (.one (.cstr s))] => some (True, .tup [.one (.ow 0 12 0 (grpR s).length false), .one (.con .i64 (grpT s))], [.own 45 cOp (grpR s)])
  | [.v (.one (.str s))] => some (True, .tup [.one (.ow 0 12 0 (grpR s).length false), .one (.sym .i64 (grpT s))], [.own 45 cOp (grpR s)])
  | _ => none
theorem OkS.addFq {S : Sums} {f : Nat} {q q' : FSpec} (h0 : OkS P S) (h : OkS P (S.addF f q)) (hq : ∀ args p v hs, q' args = some (p, v, hs) → ∃ v2, q (eraM [] args) = some (p, v2, hs) ∧ ∀ n pl u, (v2.sh n).R pl u → (v.sh n).R pl u) : OkS P (S.addF f q') := by
  refine ⟨h.pure, ⟨fun g sp hg => ?_, h.spec.2⟩, fun g sp hg => ?_⟩
  · by_cases e : g = f
    · subst e
      simp only [Sums.addF, if_true] at hg
      cases hg
      obtain ⟨hfn, hh⟩ := h.spec.1 g (freshSpec q) (by simp [Sums.addF])
      refine ⟨hfn, fun args hh' K hsp w0 Sx pl w vals hR hargs => ?_⟩
      unfold freshSpec at hsp
      split at hsp
      · rename_i p v hs hqa
        obtain ⟨v2, h1, h2⟩ := hq _ _ _ _ hqa
        refine (hh (eraM [] args) hh' (fun a k => a = v2.sh (len' hh') ∧ k = app hh' (shH (len' hh') hs)) (by unfold freshSpec; rw [h1]; exact ⟨hsp.1, rfl, rfl⟩) w0 Sx pl w vals hR (ArgsR_era hargs)).mono ?_
        rintro e w' ⟨u, av, h', pl', he, hav, hpx, hR', rfl, rfl⟩
        exact ⟨u, v.sh (len' hh'), _, pl', he, h2 _ _ _ hav, hpx, hR', hsp.2⟩
      · exact hsp.elim
    · simp only [Sums.addF, if_neg e] at hg
      exact h0.spec.1 g sp hg
  · by_cases e : g = f
    · subst e
      simp only [Sums.addF, if_true] at hg
      cases hg
      intro args hh K K' hK hx
      unfold freshSpec at hx ⊢
      split at hx
      · exact ⟨hx.1, hK _ _ hx.2⟩
      · exact hx.elim
    · simp only [Sums.addF, if_neg e] at hg
      exact h0.mono g sp hg
def RH : Sums := RG.addF 11 qGroupL
theorem pRH : OkS P RH := by
  refine pRG.addFq (pRG.addFm fine hGroup) fun args p v hs hq => ?_
  unfold qGroupL at hq
  split at hq
  · rename_i s
    cases hq
    refine ⟨_, rfl, fun n pl u hu => ?_⟩
    rw [← grpE_T]
    obtain ⟨us, rfl, hu⟩ := hu
    match us, hu with
    | [a, b], ⟨k1, k2, _⟩ => exact ⟨[a, b], rfl, k1, k2.imp (fun h => by cases h) (fun h => h), trivial⟩
  · rename_i s
    cases hq
    refine ⟨_, rfl, fun n pl u hu => ?_⟩
    rw [← grpE_T]
    exact hu
  · cases hq
end Go.AM
open Go Go.AM Go.Proofs
namespace Go.AM
open Dist
def plain1 : Annos := ⟨1, fun _ _ _ => none, fun _ _ _ => []⟩
def nameF (xs : List OpI) : List (List UInt8) → Option (List UInt8)
  | [] => none
  | n :: l => if xs = grpR n then some n else nameF xs l
def nameR (xs : List OpI) : List UInt8 := if checkP xs ≠ 0 then [] else match nameF xs namesL with
  | some n => n
  | none => []
def nameE (xs : List OpI) : Int := if checkP xs ≠ 0 then checkP xs else match nameF xs namesL with
  | some _ => 0
  | none => 9
end Go.AM
open Go Go.AM Go.Proofs
namespace Go.AM
open Dist
set_option maxRecDepth 100000
def nmF : List (List UInt8) := [[UInt8.ofNat (nat_lit 66 + (1 : Nat)), UInt8.ofNat (nat_lit 49 + (1 : Nat))], [UInt8.ofNat (nat_lit 66 + (1 : Nat)), UInt8.ofNat (nat_lit 49 + (1 : Nat)), UInt8.ofNat (nat_lit 46 + (1 : Nat)), UInt8.ofNat (nat_lit 98 + (1 : Nat))], [UInt8.ofNat (nat_lit 69 + (1 : Nat)), UInt8.ofNat (nat_lit 99 + (1 : Nat)), UInt8.ofNat (nat_lit 44 + (1 : Nat)), UInt8.ofNat (nat_lit 50 + (1 : Nat)), UInt8.ofNat (nat_lit 108 + (1 : Nat))], [UInt8.ofNat (nat_lit 69 + (1 : Nat)), UInt8.ofNat (nat_lit 99 + (1 : Nat)), UInt8.ofNat (nat_lit 99 + (1 : Nat)), UInt8.ofNat (nat_lit 99 + (1 : Nat))], [UInt8.ofNat (nat_lit 69 + (1 : Nat)), UInt8.ofNat (nat_lit 108 + (1 : Nat)), UInt8.ofNat (nat_lit 44 + (1 : Nat)), UInt8.ofNat (nat_lit 50 + (1 : Nat)), UInt8.ofNat (nat_lit 108 + (1 : Nat))], [UInt8.ofNat (nat_lit 72 + (1 : Nat)), UInt8.ofNat (nat_lit 96 + (1 : Nat)), UInt8.ofNat (nat_lit 44 + (1 : Nat)), UInt8.ofNat (nat_lit 50 + (1 : Nat)), UInt8.ofNat (nat_lit 99 + (1 : Nat))], [UInt8.ofNat (nat_lit 79 + (1 : Nat)), UInt8.ofNat (nat_lit 44 + (1 : Nat)), UInt8.ofNat (nat_lit 48 + (1 : Nat))], [UInt8.ofNat (nat_lit 79 + (1 : Nat)), UInt8.ofNat (nat_lit 48 + (1 : Nat))], [UInt8.ofNat (nat_lit 79 + (1 : Nat)), UInt8.ofNat (nat_lit 49 + (1 : Nat))], [UInt8.ofNat (nat_lit 79 + (1 : Nat)), UInt8.ofNat (nat_lit 49 + (1 : Nat)), UInt8.ofNat (nat_lit 46 + (1 : Nat)), UInt8.ofNat (nat_lit 108 + (1 : Nat))], [UInt8.ofNat (nat_lit 79 + (1 : Nat)), UInt8.ofNat (nat_lit 49 + (1 : Nat)), UInt8.ofNat (nat_lit 48 + (1 : Nat))], [UInt8.ofNat (nat_lit 79 + (1 : Nat)), UInt8.ofNat (nat_lit 49 + (1 : Nat)), UInt8.ofNat (nat_lit 48 + (1 : Nat)), UInt8.ofNat (nat_lit 46 + (1 : Nat)), UInt8.ofNat (nat_lit 98 + (1 : Nat))], [UInt8.ofNat (nat_lit 79 + (1 : Nat)), UInt8.ofNat (nat_lit 49 + (1 : Nat)), UInt8.ofNat (nat_lit 48 + (1 : Nat)), UInt8.ofNat (nat_lit 49 + (1 : Nat)), UInt8.ofNat (nat_lit 48 + (1 : Nat)), UInt8.ofNat (nat_lit 49 + (1 : Nat)), UInt8.ofNat (nat_lit 48 + (1 : Nat))], [UInt8.ofNat (nat_lit 79 + (1 : Nat)), UInt8.ofNat (nat_lit 49 + (1 : Nat)), UInt8.ofNat (nat_lit 49 + (1 : Nat)), UInt8.ofNat (nat_lit 49 + (1 : Nat))], [UInt8.ofNat (nat_lit 79 + (1 : Nat)), UInt8.ofNat (nat_lit 49 + (1 : Nat)), UInt8.ofNat (nat_lit 50 + (1 : Nat))], [UInt8.ofNat (nat_lit 79 + (1 : Nat)), UInt8.ofNat (nat_lit 50 + (1 : Nat))], [UInt8.ofNat (nat_lit 79 + (1 : Nat)), UInt8.ofNat (nat_lit 50 + (1 : Nat)), UInt8.ofNat (nat_lit 48 + (1 : Nat))], [UInt8.ofNat (nat_lit 79 + (1 : Nat)), UInt8.ofNat (nat_lit 51 + (1 : Nat))], [UInt8.ofNat (nat_lit 79 + (1 : Nat)), UInt8.ofNat (nat_lit 51 + (1 : Nat)), UInt8.ofNat (nat_lit 46 + (1 : Nat)), UInt8.ofNat (nat_lit 108 + (1 : Nat)), UInt8.ofNat (nat_lit 108 + (1 : Nat)), UInt8.ofNat (nat_lit 108 + (1 : Nat))], [UInt8.ofNat (nat_lit 79 + (1 : Nat)), UInt8.ofNat (nat_lit 51 + (1 : Nat)), UInt8.ofNat (nat_lit 48 + (1 : Nat))], [UInt8.ofNat (nat_lit 79 + (1 : Nat)), UInt8.ofNat (nat_lit 53 + (1 : Nat))], [UInt8.ofNat (nat_lit 79 + (1 : Nat)), UInt8.ofNat (nat_lit 53 + (1 : Nat)), UInt8.ofNat (nat_lit 50 + (1 : Nat)), UInt8.ofNat (nat_lit 46 + (1 : Nat)), UInt8.ofNat (nat_lit 108 + (1 : Nat)), UInt8.ofNat (nat_lit 108 + (1 : Nat)), UInt8.ofNat (nat_lit 98 + (1 : Nat))], [UInt8.ofNat (nat_lit 79 + (1 : Nat)), UInt8.ofNat (nat_lit 98 + (1 : Nat))], [UInt8.ofNat (nat_lit 79 + (1 : Nat)), UInt8.ofNat (nat_lit 108 + (1 : Nat))], [UInt8.ofNat (nat_lit 79 + (1 : Nat)), UInt8.ofNat (nat_lit 108 + (1 : Nat)), UInt8.ofNat (nat_lit 44 + (1 : Nat)), UInt8.ofNat (nat_lit 50 + (1 : Nat)), UInt8.ofNat (nat_lit 108 + (1 : Nat))], [UInt8.ofNat (nat_lit 79 + (1 : Nat)), UInt8.ofNat (nat_lit 109 + (1 : Nat)), UInt8.ofNat (nat_lit 108 + (1 : Nat)), UInt8.ofNat (nat_lit 96 + (1 : Nat))], [UInt8.ofNat (nat_lit 81 + (1 : Nat)), UInt8.ofNat (nat_lit 50 + (1 : Nat))]]
def nameNF (xs : List OpI) (nr : List UInt8) (ne : Int) : List (List UInt8) → Prop
  | [] => ((nr = [] ∧ ne = 9 ∧ True) ∧ True) ∧ SameRows cOp xs cOp xs ∧ True
  | n :: l => True ∧ ∃ (z : List cOp.τ), SameRows cOp z cOp xs ∧ ∃ (z2 : List cOp.τ), SameRows cOp z2 cOp (List.take (grpR n).length (List.drop (0 : Nat) (grpR n))) ∧ (xs.length = xs.length ∧ ((0 : Nat) + (grpR n).length).le (grpR n).length ∧ z.length.succ.le (4611686018427387904 : Nat)) ∧
      (decide ((z : List OpI) = z2) = true → ((nr = n ∧ ne = (0 : Int) ∧ True) ∧ True) ∧ SameRows cOp xs cOp xs ∧ True) ∧ (decide ((z : List OpI) = z2) = false → nameNF xs nr ne l)
theorem nfname (xs : List OpI) (c : Nat) : call P RH plain1 100000 Tryz.f13 [.v (.one (.rs 0 12 xs.length c))] [.ro 0 cOp xs] (fun v h => MatchTo 1 [v] h ([.tup [.one (.str (nameR xs)), .one (.sym .i64 (nameE xs))]], [.ro 0 cOp xs])) =
    (∃ (z : List cOp.τ), SameRows cOp z cOp xs ∧ (xs.length = xs.length ∧ True) ∧ ((!decide (checkP z = (0 : Int))) = true → ((nameR xs = [] ∧ nameE xs = checkP z ∧ True) ∧ True) ∧ SameRows cOp xs cOp xs ∧ True) ∧ ((!decide (checkP z = (0 : Int))) = false → True ∧ nameNF xs (nameR xs) (nameE xs) nmF)) := by kernel_rfl
theorem nmF_eq : nmF = namesL := by kernel_rfl
theorem name_nf {xs : List OpI} (hb : xs.length ≤ 192) : ∀ l, nameNF xs (match nameF xs l with | some n => n | none => []) (match nameF xs l with | some _ => 0 | none => 9) l
  | [] => ⟨⟨⟨rfl, rfl, trivial⟩, trivial⟩, sameR _ _, trivial⟩
  | n :: l => by
    unfold nameF nameNF
    refine ⟨trivial, xs, sameR _ _, grpR n, ?_, ⟨rfl, by show 0 + _ ≤ _; omega, by show xs.length + 1 ≤ _; omega⟩, fun h => ?_, fun h => ?_⟩
    · rw [List.drop_zero, List.take_length]; exact sameR _ _
    · have h : xs = grpR n := of_decide_eq_true h
      rw [if_pos h]
      exact ⟨⟨⟨rfl, rfl, trivial⟩, trivial⟩, sameR _ _, trivial⟩
    · have h : ¬ xs = grpR n := of_decide_eq_false h
      rw [if_neg h]
      exact name_nf hb l
theorem checkP_len {xs : List OpI} (h : checkP xs = 0) : xs.length ≤ 192 := by
  unfold checkP at h
  by_cases hm : mapsE xs = 0
  · unfold mapsE at hm
    split at hm
    · cases hm
    · omega
  · rw [if_pos hm] at h; exact absurd h hm
theorem callName (xs : List OpI) (c : Nat) : CallR P RH plain1 100000 Tryz.f13 [.v (.one (.rs 0 12 xs.length c))] [.ro 0 cOp xs] (fun v h => MatchTo 1 [v] h ([.tup [.one (.str (nameR xs)), .one (.sym .i64 (nameE xs))]], [.ro 0 cOp xs])) := by
  refine ⟨?_⟩
  rw [nfname]
  refine ⟨xs, sameR _ _, ⟨rfl, trivial⟩, fun h => ?_, fun h => ?_⟩
  · have h : checkP xs ≠ 0 := by simpa using h
    exact ⟨⟨⟨by rw [nameR, if_pos h], by rw [nameE, if_pos h], trivial⟩, trivial⟩, sameR _ _, trivial⟩
  · have h : checkP xs = 0 := by simpa using h
    refine ⟨trivial, ?_⟩
    rw [nmF_eq]
    have := name_nf (checkP_len h) namesL
    rw [nameR, nameE, if_neg (by simpa using h), if_neg (by simpa using h)]
    exact this
def qName : RSpec cOp := fun os xs => match os with
  | [] => some (True, .tup [.one (.str (nameR xs)), .one (.sym .i64 (nameE xs))], [])
  | _ => none
theorem hrName : HoldsR P 13 0 cOp qName := by
  refine ⟨_, Tryz.func13, by kernel_rfl, fun os xs p v hs hq hp hno c => ?_⟩
  unfold qName at hq
  split at hq
  · cases hq
    exact ⟨100000, plain1, RH, rfl, pRH, callName xs c⟩
  · cases hq
def RI : Sums := RH.addSp 13 (rowSpecL 0 cOp qName)
theorem pRI : OkS P RI := pRH.addRowL fine hrName
end Go.AM
open Go Go.AM Go.Proofs
namespace Go.AM
theorem holds_okA {S : Sums} {f : Nat} {fn : Func} {q : PSpec} (A : Annos) (n : Nat) (hA : A.q = 0) (hf : P.funcs[f]? = some fn) (hb : fn.body.isSome = true)
    (h : ∀ args av, (q args).gives av → noPtrs args = true ∧ ∃ v, av.valOf = some v ∧ call P S A n fn args [] (fun v' h => v'.valOf = some v ∧ h = [])) : Holds P S f q :=
  ⟨fn, hf, hb, fun args av hg => by
    obtain ⟨h1, v, h2, h3⟩ := h args av hg
    exact ⟨h1, v, n, A, hA, h2, h3⟩⟩
def ovO (o : OpI) : Bool := over9 o.a o.b o.c o.d o.e o.f o.g o.h o.i
def rO (o q : OpI) : OpI := ⟨tn o.a o.b o.c q.a q.d q.g, tn o.a o.b o.c q.b q.e q.h, tn o.a o.b o.c q.c q.f q.i, tn o.d o.e o.f q.a q.d q.g, tn o.d o.e o.f q.b q.e q.h, tn o.d o.e o.f q.c q.f q.i, tn o.g o.h o.i q.a q.d q.g, tn o.g o.h o.i q.b q.e q.h, tn o.g o.h o.i q.c q.f q.i, rt o.a o.b o.c q.x q.y q.z o.x, rt o.d o.e o.f q.x q.y q.z o.y, rt o.g o.h o.i q.x q.y q.z o.z⟩
def qRmulO : PSpec
  | [.v (.agg [.sym .i64 a, .sym .i64 b, .sym .i64 c, .sym .i64 d, .sym .i64 e, .sym .i64 f, .sym .i64 g, .sym .i64 h, .sym .i64 i, .sym .i64 x, .sym .i64 y, .sym .i64 z]), .v (.agg [.sym .i64 p, .sym .i64 q, .sym .i64 r, .sym .i64 s, .sym .i64 t, .sym .i64 u, .sym .i64 v, .sym .i64 w, .sym .i64 k, .sym .i64 l, .sym .i64 m, .sym .i64 n])] => .ok (.v (.agg (opS (rO ⟨a, b, c, d, e, f, g, h, i, x, y, z⟩ ⟨p, q, r, s, t, u, v, w, k, l, m, n⟩))))
  | _ => .fail
theorem ohRmulO : Holds P O9 111 qRmulO := by
  obtain ⟨fn, h1, h2, h3⟩ := oh_rmul
  refine ⟨fn, h1, h2, fun args av hg => ?_⟩
  unfold qRmulO at hg
  split at hg
  · rename_i a b c d e f g h i x y z p q r s t u v w k l m n
    rw [gives_ok hg]
    exact h3 _ _ (show (qRmul [.v (.agg [.sym .i64 a, .sym .i64 b, .sym .i64 c, .sym .i64 d, .sym .i64 e, .sym .i64 f, .sym .i64 g, .sym .i64 h, .sym .i64 i, .sym .i64 x, .sym .i64 y, .sym .i64 z]), .v (.agg [.sym .i64 p, .sym .i64 q, .sym .i64 r, .sym .i64 s, .sym .i64 t, .sym .i64 u, .sym .i64 v, .sym .i64 w, .sym .i64 k, .sym .i64 l, .sym .i64 m, .sym .i64 n])]).gives _ from .inl rfl)
  · exact (gives_fail hg).elim
def qOneO : PSpec
  | [] => .ok (.v (.agg (opS oneO)))
  | _ => .fail
theorem nfrone (K : KV) : call P O9 noAnn 1000 Tryz.f110 [] [] K = K (AV.v (PV.agg [SV.con IntKind.i64 1, SV.con IntKind.i64 0, SV.con IntKind.i64 0, SV.con IntKind.i64 0, SV.con IntKind.i64 1, SV.con IntKind.i64 0, SV.con IntKind.i64 0, SV.con IntKind.i64 0, SV.con IntKind.i64 1, SV.con IntKind.i64 0, SV.con IntKind.i64 0, SV.con IntKind.i64 0])) [] := by kernel_rfl
theorem ohRone : Holds P O9 110 qOneO := by
  refine holds_okA (fn := Tryz.f110) noAnn 1000 rfl (by kernel_rfl) (by kernel_rfl) fun args av hg => ?_
  unfold qOneO at hg
  split at hg
  · rw [gives_ok hg]
    refine ⟨rfl, _, rfl, ?_⟩
    rw [nfrone]
    exact ⟨rfl, rfl⟩
  · exact (gives_fail hg).elim
def T0 : Sums := ((R3.add 111 qRmulO).add 133 qCmpO).addR 110 qOneO
theorem pT0 : OkS P T0 := ((pR3.add1 fine pO9 ohRmulO).add1 fine pO9 oh_rcmp12).addR fine (ohRone.toE pO9)
def placeL (o : OpI) : List OpI → Int → Int
  | [], _ => -1
  | q :: l, i => if q = o then i else placeL o l (i + 1)
def placeI (xs : List OpI) (o : OpI) : Int := placeL o xs 0
def annDMaps (xs : List OpI) : Annos := ⟨1, fun id env h => if id = 3 then forceE (keepS [0, 3, 7, 8, 9] 0 env) fun env => some ⟨{ p : Nat × Int // p.1 ≤ xs.length ∧ mapsL xs 0 = mapsL (xs.drop p.1) p.2 }, fun p => (set (set env 9 (I' (p.1.1 : Int))) 3 (I' p.1.2), headH 1 h), fun p => xs.length - p.1.1⟩ else none, fun _ _ _ => []⟩
def annPlace (xs : List OpI) (o : OpI) : Annos := ⟨1, fun id env h => if id = 2 then forceE (keepS [0, 3, 7, 8, 9] 0 env) fun env => some ⟨{ i : Nat // i ≤ xs.length ∧ placeI xs o = placeL o (xs.drop i) i }, fun i => (set env 9 (I' (i.1 : Int)), headH 2 h), fun i => xs.length - i.1⟩ else none, fun _ _ _ => []⟩
end Go.AM
