/- Hidden facts. -/
import Derived.Lib.Hide
set_option linter.all false
namespace Go.Proofs.YtmhpfoicloojcaaGreatDoor
set_option maxRecDepth 100000
set_option maxHeartbeats 16000000
section
open Go
theorem hid {p:Prop} (h:p):RowKit.Hid p:=h
theorem aAw {p0 p1 p2:Prop} (h0:p0) (h1:p1) (h2:p2):RowKit.Hid p0/\RowKit.Hid p1/\RowKit.Hid p2:=⟨h0,h1,h2⟩
theorem aBp {p0 p1 p2 p3:Prop} (h0:p0) (h1:p1) (h2:p2) (h3:p3):RowKit.Hid p0/\RowKit.Hid p1/\RowKit.Hid p2/\RowKit.Hid p3:=⟨h0,h1,h2,h3⟩
theorem aDs {p0 p1 p2 p3 p4:Prop} (h0:p0) (h1:p1) (h2:p2) (h3:p3) (h4:p4):RowKit.Hid p0/\RowKit.Hid p1/\RowKit.Hid p2/\RowKit.Hid p3/\RowKit.Hid p4:=⟨h0,h1,h2,h3,h4⟩
theorem aIl {p0 p1 p2 p3 p4 p5:Prop} (h0:p0) (h1:p1) (h2:p2) (h3:p3) (h4:p4) (h5:p5):RowKit.Hid p0/\RowKit.Hid p1/\RowKit.Hid p2/\RowKit.Hid p3/\RowKit.Hid p4/\RowKit.Hid p5:=⟨h0,h1,h2,h3,h4,h5⟩
theorem aMz {p0 p1 p2 p3 p4 p5 p6:Prop} (h0:p0) (h1:p1) (h2:p2) (h3:p3) (h4:p4) (h5:p5) (h6:p6):RowKit.Hid p0/\RowKit.Hid p1/\RowKit.Hid p2/\RowKit.Hid p3/\RowKit.Hid p4/\RowKit.Hid p5/\RowKit.Hid p6:=⟨h0,h1,h2,h3,h4,h5,h6⟩
theorem aMy {p0 p1 p2 p3 p4 p5 p6 p7:Prop} (h0:p0) (h1:p1) (h2:p2) (h3:p3) (h4:p4) (h5:p5) (h6:p6) (h7:p7):RowKit.Hid p0/\RowKit.Hid p1/\RowKit.Hid p2/\RowKit.Hid p3/\RowKit.Hid p4/\RowKit.Hid p5/\RowKit.Hid p6/\RowKit.Hid p7:=⟨h0,h1,h2,h3,h4,h5,h6,h7⟩
theorem bBf {p0 p1 p2 p3 p4 p5 p6 p7 p8:Prop} (h0:p0) (h1:p1) (h2:p2) (h3:p3) (h4:p4) (h5:p5) (h6:p6) (h7:p7) (h8:p8):RowKit.Hid p0/\RowKit.Hid p1/\RowKit.Hid p2/\RowKit.Hid p3/\RowKit.Hid p4/\RowKit.Hid p5/\RowKit.Hid p6/\RowKit.Hid p7/\RowKit.Hid p8:=⟨h0,h1,h2,h3,h4,h5,h6,h7,h8⟩
theorem aYm {p0 p1 p2 p3 p4 p5 p6 p7 p8 p9:Prop} (h0:p0) (h1:p1) (h2:p2) (h3:p3) (h4:p4) (h5:p5) (h6:p6) (h7:p7) (h8:p8) (h9:p9):RowKit.Hid p0/\RowKit.Hid p1/\RowKit.Hid p2/\RowKit.Hid p3/\RowKit.Hid p4/\RowKit.Hid p5/\RowKit.Hid p6/\RowKit.Hid p7/\RowKit.Hid p8/\RowKit.Hid p9:=⟨h0,h1,h2,h3,h4,h5,h6,h7,h8,h9⟩
theorem aU3 {p0 p1 p2 p3 p4 p5 p6 p7 p8 p9 p10:Prop} (h0:p0) (h1:p1) (h2:p2) (h3:p3) (h4:p4) (h5:p5) (h6:p6) (h7:p7) (h8:p8) (h9:p9) (h10:p10):RowKit.Hid p0/\RowKit.Hid p1/\RowKit.Hid p2/\RowKit.Hid p3/\RowKit.Hid p4/\RowKit.Hid p5/\RowKit.Hid p6/\RowKit.Hid p7/\RowKit.Hid p8/\RowKit.Hid p9/\RowKit.Hid p10:=⟨h0,h1,h2,h3,h4,h5,h6,h7,h8,h9,h10⟩
theorem bEb {p0 p1 p2 p3 p4 p5 p6 p7 p8 p9 p10 p11:Prop} (h0:p0) (h1:p1) (h2:p2) (h3:p3) (h4:p4) (h5:p5) (h6:p6) (h7:p7) (h8:p8) (h9:p9) (h10:p10) (h11:p11):RowKit.Hid p0/\RowKit.Hid p1/\RowKit.Hid p2/\RowKit.Hid p3/\RowKit.Hid p4/\RowKit.Hid p5/\RowKit.Hid p6/\RowKit.Hid p7/\RowKit.Hid p8/\RowKit.Hid p9/\RowKit.Hid p10/\RowKit.Hid p11:=⟨h0,h1,h2,h3,h4,h5,h6,h7,h8,h9,h10,h11⟩
end
end Go.Proofs.YtmhpfoicloojcaaGreatDoor
