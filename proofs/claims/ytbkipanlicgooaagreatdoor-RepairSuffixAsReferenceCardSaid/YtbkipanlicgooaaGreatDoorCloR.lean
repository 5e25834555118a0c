/-
  What a law's function reaches: the list, looked up with a number as the set of what was met. No conditions but those in each statement.
-/
import Derived.Test.YtbkipanlicgooaaGreatDoorProg
import Derived.KernelRfl
import GoSem.ClaimFn
import GoSem.ClaimFollow
namespace Go.Proofs.YtbkipanlicgooaaGreatDoor
/-- closureVia, what was met kept as a number's bits. -/
def cloF (P : Program) : (fuel : Nat) → (todo seen : List FuncId) → (m : Nat) → List FuncId
  | 0, _, seen, _ => seen.reverse
  | _, [], seen, _ => seen.reverse
  | n + 1, f :: todo, seen, m =>
    if m.testBit f then cloF P n todo seen m
    else cloF P n ((P.funcs[f]?).elim [] P.leadsTo ++ todo) (f :: seen) (m ||| (1 <<< f))
theorem cloF_eq (P : Program) : ∀ (n : Nat) (todo seen : List FuncId) (m : Nat), (∀ g, m.testBit g = seen.contains g) → P.closureVia n todo seen = cloF P n todo seen m
  | 0, _, _, _, _ => rfl
  | _ + 1, [], _, _, _ => rfl
  | n + 1, f :: todo, seen, m, h => by
    rw [Program.closureVia, cloF, h f]
    split
    · exact cloF_eq P n todo seen m h
    · refine cloF_eq P n _ (f :: seen) _ fun g => ?_
      rw [Nat.testBit_or, h g, Nat.shiftLeft_eq, Nat.one_mul, Nat.testBit_two_pow, List.contains_cons]
      by_cases e : f = g
      · subst e; simp
      · have e' : ¬ g = f := fun x => e x.symm
        simp [e, e']
theorem clo_of {P : Program} {f fuel : Nat} {L : List FuncId} (h0 : (P.funcs.toList.map fun g => (P.leadsTo g).length + 1).sum = fuel) (h : cloF P (1 + fuel) [f] [] 0 = L) : P.closure f = L := by
  unfold Program.closure
  rw [h0, cloF_eq P _ _ _ 0 (fun g => by simp), h]
theorem inPlace_of {P : Program} {f : FuncId} {L : List FuncId} (h : P.closure f = L) : P.inPlace f = P.inPlaceOf L := by
  unfold Program.inPlace Program.inPlaceOf
  rw [h]
theorem unfollowed_of {P : Program} {f : FuncId} {L : List FuncId} (h : P.closure f = L) : P.unfollowed f = L.any fun g => (P.funcs[g]?).any fun fn => match fn.body with | some c => c.unfollowed | none => entryCalls fn := by
  unfold Program.unfollowed
  rw [h]
  refine congrArg (fun q => L.any q) (funext fun g => ?_)
  cases P.funcs[g]? with
  | none => rfl
  | some fn =>
    simp only [Option.any_some]
    cases fn.body <;> rfl
theorem recurses_of {P : Program} {f : FuncId} (h : P.unfollowed f = true) : P.recurses f = true := by
  unfold Program.recurses
  rw [h, Bool.true_or]
theorem varsNamed_of {P : Program} {f : FuncId} {L : List FuncId} (h : P.closure f = L) : P.varsNamed f = P.varsOf L := by
  unfold Program.varsNamed Program.varsOf
  rw [h]
theorem fuelN : (Tryz.prog.funcs.toList.map fun g => (Tryz.prog.leadsTo g).length + 1).sum = 2012 := by kernel_rfl
end Go.Proofs.YtbkipanlicgooaaGreatDoor
namespace Go.Proofs.YtbkipanlicgooaaGreatDoor
def reach3 : List Nat := [3, 6, 11, 20, 21, 30, 57, 58, 59, 60, 61, 125, 228, 128, 229, 353, 230, 354, 355, 192, 220, 356, 476, 574, 231, 357, 477, 575, 615, 637, 638, 478, 576, 616, 577, 578, 198, 319, 436, 525, 526, 123, 596, 597, 527, 528, 598, 599, 623, 624, 617, 579, 358, 479, 580, 581, 582, 480, 481, 482, 359, 483, 126, 62, 127, 63, 64, 129, 130, 132, 234, 131, 232, 360, 233, 54, 122, 361, 484, 490, 55, 485, 583, 486, 224, 225, 487, 584, 585, 618, 488, 489, 491, 492, 133, 135, 134, 235, 247, 236, 362, 363, 493, 252, 251, 253, 494, 237, 238, 239, 365, 364, 240, 366, 241, 242, 243, 244, 367, 245, 246, 136, 248, 249, 250, 368, 495, 254, 137, 255, 65, 138, 139, 66, 67, 68, 69, 70, 71, 72, 140, 141, 73, 142, 143, 31, 74, 75, 144, 256, 257, 369, 258, 145, 259, 260, 370, 261, 371, 496, 375, 372, 373, 374, 497, 586, 530, 498, 499, 76, 146, 262, 376, 500, 501, 148, 502, 503, 504, 505, 147, 77, 149, 150, 263, 78, 151, 264, 265, 266, 267, 268, 269, 270, 152, 271, 153, 79, 154, 32, 33, 81, 80, 155, 34, 36, 35, 82, 156, 273, 272, 307, 274, 378, 377, 379, 506, 157, 37, 83, 158, 275, 380, 381, 507, 508, 509, 510, 511, 512, 513, 382, 420, 427, 545, 426, 26, 515, 514, 384, 383, 413, 531, 385, 516, 517, 276, 386, 518, 277, 387, 278, 388, 389, 390, 391, 519, 392, 393, 396, 520, 587, 588, 619, 639, 646, 589, 394, 296, 414, 532, 600, 601, 602, 604, 605, 603, 415, 279, 395, 397, 521, 398, 159, 280, 283, 402, 281, 399, 400, 401, 160, 282, 284, 161, 285, 403, 404, 405, 406, 407, 522, 408, 523, 409, 524, 591, 590, 593, 592, 595, 622, 641, 620, 640, 621, 594, 286, 287, 200, 321, 437, 552, 162, 289, 288, 290, 410, 291, 411, 529, 412, 84, 85, 182, 184, 183, 163, 292, 164, 165, 166, 167, 168, 169, 293, 190, 308, 188, 294, 170, 171, 295, 172, 173, 174, 175, 297, 299, 298, 300, 301, 176, 177, 302, 88, 186, 416, 533, 303, 417, 418, 534, 535, 536, 537, 538, 539, 540, 541, 542, 543, 178, 179, 304, 419, 544, 305, 306, 421, 424, 422, 423, 425, 428, 546, 547, 606, 625, 180, 181, 38, 39, 40, 86, 87, 185, 41, 89, 187, 189, 42, 12, 13, 22, 43, 90, 91, 92, 191, 194, 195, 312, 313, 432, 314, 311, 431, 430, 548, 193, 310, 309, 429, 93, 14, 44, 94, 196, 315, 317, 316, 433, 434, 549, 550, 551, 435, 95, 197, 318, 45, 96, 46, 47, 97, 98, 199, 320, 99, 100, 101, 48, 49, 103, 201, 202, 102, 50, 104, 106, 105, 112, 8, 15, 23, 24, 53, 114, 115, 223, 116, 117, 226, 227, 352, 118, 119, 120, 121, 25, 27, 16, 216, 215, 217, 350, 351, 203, 322, 439, 438, 323, 325, 441, 553, 440, 451, 468, 452, 559, 453, 561, 455, 560, 454, 456, 562, 608, 609, 607, 626, 563, 610, 334, 324, 343, 332, 472, 473, 557, 449, 558, 327, 218, 219, 326, 221, 222, 328, 204, 331, 442, 554, 555, 448, 446, 556, 342, 466, 572, 613, 614, 636, 470, 467, 469, 573, 335, 471, 329, 443, 444, 330, 445, 447, 450, 108, 205, 206, 207, 333, 107, 51, 109, 208, 209, 336, 457, 564, 459, 458, 337, 339, 340, 461, 462, 464, 567, 463, 565, 611, 566, 612, 627, 633, 645, 628, 642, 629, 630, 643, 644, 647, 631, 632, 634, 635, 465, 568, 569, 570, 341, 571, 338, 460, 110, 210, 211, 212, 344, 345, 346, 474, 475, 111, 213, 347, 348, 214, 349, 52, 113, 7, 9, 17, 18, 28, 10, 19, 29, 56, 124]
theorem clo3 : Tryz.prog.closure 3 = reach3 := clo_of fuelN (by kernel_rfl)
end Go.Proofs.YtbkipanlicgooaaGreatDoor
