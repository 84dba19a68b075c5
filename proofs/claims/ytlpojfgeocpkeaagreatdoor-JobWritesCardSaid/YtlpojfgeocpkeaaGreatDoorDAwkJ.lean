/- The law's awake. -/
import Derived.Test.YtlpojfgeocpkeaaGreatDoorX06
namespace Go.Proofs.YtlpojfgeocpkeaaGreatDoor
open Go.RowKit
set_option linter.unusedVariables false
set_option linter.unusedSimpArgs false
def aC:Cra:=⟨0,[1],[]⟩
def A0:Dsk:=Dsk.new 10
def A1:Dsk:=(A0.create [97]).1
def A2:Dsk:=(A1.append [97] [49,50,51,52,53]).1
def A3:Dsk:=(A2.sync [97]).1
def A4:Dsk:=A3.dirsync.1
def A5:Dsk:=(A4.append [97] [54,55]).1
def A6:Dsk:=(A5.append [97] [56,57,48,49]).1
def A7:Dsk:=A6.crash aC
def A8:Dsk:=A7.start
theorem a1:(A0.create [97]).2=0:=by decide +kernel
theorem a2:(A1.append [97] [49,50,51,52,53]).2=0:=by decide +kernel
theorem a3:(A2.sync [97]).2=0:=by decide +kernel
theorem a4:A3.dirsync.2=0:=by decide +kernel
theorem a5:(A4.append [97] [54,55]).2=0:=by decide +kernel
theorem a6:(A5.append [97] [56,57,48,49]).2=6:=by decide +kernel
theorem a7:(A7.read [97]).2=7:=by decide +kernel
theorem a8:A8.read [97]=([49,50,51,52,53,54],0):=by decide +kernel
theorem g0:A0.Good 0:=.new 10
theorem g1:A1.Good 1:=g0.create _
theorem g2:A2.Good 2:=g1.append _ _
theorem g3:A3.Good 3:=g2.sync _
theorem g4:A4.Good 4:=g3.dirsync
theorem g5:A5.Good 5:=g4.append _ _
theorem g6:A6.Good 6:=g5.append _ _
theorem g7:A7.Good 7:=g6.crash _
end Go.Proofs.YtlpojfgeocpkeaaGreatDoor
