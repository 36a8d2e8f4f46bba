import Derived.Test.YtnoinchifbckcaaGreatDoorAxP8
set_option linter.all false
namespace Go.Ax.Law
variable {α:Type}
theorem atI_set2 {xs:List α} {i j:Int} {u v:α} (hi:0≤i) (hj:0≤j) (hil:i<xs.length) (hjl:j<xs.length) {p:Int} (hp:0≤p):
    atI ((xs.set i.toNat v).set j.toNat u) p=if p=j then some u else if p=i then some v else atI xs p:=by
  simp only [atI,List.getElem?_set,List.length_set]
  by_cases e1:p=j
  · rw [if_pos (by omega),if_pos (by omega),if_pos e1]
  · rw [if_neg (by omega),if_neg e1]
    by_cases e2:p=i
    · rw [if_pos (by omega),if_pos (by omega),if_pos e2]
    · rw [if_neg (by omega),if_neg e2]
theorem Rotated.stepL {xs cs:List α} {a k:Int} {u v:α} (h:Rotated xs cs a (a+1) (k+1)) (ha:0≤a) (hk:a≤k) (hl:k+1<xs.length) (hu:atI cs k=some u) (hv:atI cs (k+1)=some v):Rotated xs ((cs.set k.toNat v).set (k+1).toNat u) a (a+1) (k+2):=by
  obtain ⟨h1,h2⟩:=h
  have hu':=h2 k (by omega)
  have hv':=h2 (k+1) (by omega)
  rw [hu] at hu'
  rw [hv] at hv'
  rw [if_pos (by omega)] at hv'
  rw [if_neg (by omega),if_neg (by omega)] at hu'
  refine ⟨by simpa using h1,fun p hp=>?_⟩
  rw [atI_set2 (by omega) (by omega) (by omega) (by omega) hp]
  by_cases e1:p=k+1
  · subst e1
    rw [if_pos rfl,if_neg (by omega),if_neg (by omega),hu']<;>(congr 1;omega)
  · rw [if_neg e1]
    by_cases e2:p=k
    · subst e2
      rw [if_pos rfl,if_neg (by omega),if_pos (by omega),hv']<;>(congr 1;omega)
    · rw [if_neg e2,h2 p hp]
      by_cases c1:p<a∨k+1≤p
      · rw [if_pos c1,if_pos (by omega)]
      · rw [if_neg c1,if_pos (by omega),if_neg (by omega),if_pos (by omega)]
theorem Rotated.stepR {xs cs:List α} {b k:Int} {u v:α} (h:Rotated xs cs k b (b+1)) (hk:1≤k) (hkb:k≤b) (hl:b<xs.length) (hu:atI cs (k-1)=some u) (hv:atI cs k=some v):Rotated xs ((cs.set k.toNat u).set (k-1).toNat v) (k-1) b (b+1):=by
  obtain ⟨h1,h2⟩:=h
  have hu':=h2 (k-1) (by omega)
  have hv':=h2 k (by omega)
  rw [hu] at hu'
  rw [hv] at hv'
  rw [if_pos (by omega)] at hu'
  rw [if_neg (by omega),if_pos (by omega)] at hv'
  refine ⟨by simpa using h1,fun p hp=>?_⟩
  rw [atI_set2 (by omega) (by omega) (by omega) (by omega) hp]
  by_cases e1:p=k-1
  · subst e1
    rw [if_pos rfl,if_neg (by omega),if_pos (by omega),hv']<;>(congr 1;omega)
  · rw [if_neg e1]
    by_cases e2:p=k
    · subst e2
      rw [if_pos rfl,if_neg (by omega),if_neg (by omega),hu']<;>(congr 1;omega)
    · rw [if_neg e2,h2 p hp]
      by_cases c1:p<k∨b+1≤p
      · rw [if_pos c1,if_pos (by omega)]
      · rw [if_neg c1,if_neg (by omega),if_neg (by omega),if_neg (by omega)]
theorem insL {key:α→Int} {xs ys:List α} {a i m:Int} {u:α} (h0:0≤a) (hi:a+1≤i) (him:i≤m) (hm:m≤xs.length) (hu:atI xs a=some u) (hs:Rises key xs (a+1) m)
    (l1: ∀(p:Int) (x:α),a+1≤p→p<i→atI xs p=some x→key x<key u) (l2: ∀(p:Int) (x:α),i≤p→p<m→atI xs p=some x→key u≤key x)
    (hr:Rotated xs ys a (a+1) i):SortedSeg key xs ys a m:=by
  have hr':=hr
  obtain ⟨hl,hr2⟩:=hr
  have e1: ∀p,a≤p→p<i-1→atI ys p=atI xs (p+1):=fun p h1 h2=>by
    rw [hr2 p (by omega),if_neg (by omega),if_pos (by omega)]<;>(congr 1;omega)
  have e2:atI ys (i-1)=some u:=by
    rw [hr2 _ (by omega),if_neg (by omega),if_neg (by omega),←hu]<;>(congr 1;omega)
  have e3: ∀p,0≤p→(p<a∨i≤p)→atI ys p=atI xs p:=fun p hp h=>by rw [hr2 p hp,if_pos h]
  refine .mk2 hl (fun p hp h=>e3 p hp (by omega)) ?_ (fun c=>?_)
  · intro p q x y p0 p1 pq q1 hx hy
    by_cases hp:p<i-1
    · rw [e1 p p1 hp] at hx
      by_cases hq:q<i-1
      · rw [e1 q (by omega) hq] at hy
        exact hs _ _ x y (by omega) (by omega) (by omega) (by omega) hx hy
      · by_cases hq2:q=i-1
        · subst hq2;rw [e2] at hy;cases hy
          exact Int.le_of_lt (l1 _ x (by omega) (by omega) hx)
        · rw [e3 q (by omega) (by omega)] at hy
          exact hs _ _ x y (by omega) (by omega) (by omega) (by omega) hx hy
    · rw [e3 q (by omega) (by omega)] at hy
      by_cases hp2:p=i-1
      · subst hp2;rw [e2] at hx;cases hx
        exact l2 q y (by omega) q1 hy
      · rw [e3 p p0 (by omega)] at hx
        exact hs _ _ x y (by omega) (by omega) (by omega) (by omega) hx hy
  · obtain ⟨a',rfl⟩:=Int.eq_ofNat_of_zero_le h0
    obtain ⟨i',rfl⟩:=Int.eq_ofNat_of_zero_le (show 0≤i by omega)
    refine Rotated.filter (m:=a'+1) hr' (by omega) (by omega) (by omega) (fun p q x y p1 p2 q1 q2 hx hy=>?_) c
    have:p=a':=by omega
    subst this
    rw [atI_nat,hx] at hu
    cases hu
    exact l1 q y (by omega) (by omega) (by rw [atI_nat];exact hy)
theorem insR {key:α→Int} {xs ys:List α} {a b i:Int} {v:α} (h0:0≤a) (hi:a≤i) (hib:i≤b) (hm:b<xs.length) (hv:atI xs b=some v) (hs:Rises key xs a b)
    (l1: ∀(p:Int) (x:α),a≤p→p<i→atI xs p=some x→key x≤key v) (l2: ∀(p:Int) (x:α),i≤p→p<b→atI xs p=some x→key v<key x)
    (hr:Rotated xs ys i b (b+1)):SortedSeg key xs ys a (b+1):=by
  have hr':=hr
  obtain ⟨hl,hr2⟩:=hr
  have e1: ∀p,i+1≤p→p≤b→atI ys p=atI xs (p-1):=fun p h1 h2=>by
    rw [hr2 p (by omega),if_neg (by omega),if_neg (by omega)]<;>(congr 1;omega)
  have e2:atI ys i=some v:=by
    rw [hr2 _ (by omega),if_neg (by omega),if_pos (by omega),←hv]<;>(congr 1;omega)
  have e3: ∀p,0≤p→(p<i∨b+1≤p)→atI ys p=atI xs p:=fun p hp h=>by rw [hr2 p hp,if_pos h]
  refine .mk2 hl (fun p hp h=>e3 p hp (by omega)) ?_ (fun c=>?_)
  · intro p q x y p0 p1 pq q1 hx hy
    by_cases hp:p<i
    · rw [e3 p p0 (by omega)] at hx
      by_cases hq:q<i
      · rw [e3 q (by omega) (by omega)] at hy
        exact hs _ _ x y (by omega) (by omega) (by omega) (by omega) hx hy
      · by_cases hq2:q=i
        · subst hq2;rw [e2] at hy;cases hy
          exact l1 _ x (by omega) (by omega) hx
        · rw [e1 q (by omega) (by omega)] at hy
          exact hs.le (by omega) (by omega) (by omega) (by omega) hx hy
    · rw [e1 q (by omega) (by omega)] at hy
      by_cases hp2:p=i
      · subst hp2;rw [e2] at hx;cases hx
        exact Int.le_of_lt (l2 _ y (by omega) (by omega) hy)
      · rw [e1 p (by omega) (by omega)] at hx
        exact hs _ _ x y (by omega) (by omega) (by omega) (by omega) hx hy
  · obtain ⟨i',rfl⟩:=Int.eq_ofNat_of_zero_le (show 0≤i by omega)
    obtain ⟨b',rfl⟩:=Int.eq_ofNat_of_zero_le (show 0≤b by omega)
    refine Rotated.filter (e:=b'+1) hr' (by omega) (by omega) (by omega) (fun p q x y p1 p2 q1 q2 hx hy=>?_) c
    have:q=b':=by omega
    subst this
    rw [atI_nat,hy] at hv
    cases hv
    exact l2 p x (by omega) (by omega) (by rw [atI_nat];exact hx)
theorem Rises.congr {key:α→Int} {xs ys:List α} {a b:Int} (h:Rises key xs a b) (he: ∀i,0≤i→a≤i→i<b→atI ys i=atI xs i):Rises key ys a b:=by
  intro p q x y p0 p1 pq q1 hx hy
  rw [he p p0 p1 (by omega)] at hx
  rw [he q (by omega) (by omega) q1] at hy
  exact h p q x y p0 p1 pq q1 hx hy
theorem half {x n n2 n3 n4:Int} (h0:0≤x) (h1:x≤4611686018427387904) (e1:n=IntKind.i64.wrap x) (e2:n2=IntKind.u64.wrap n) (e3:n3=Int.fdiv n2 (2^min (Int.toNat 1) 64)) (e4:n4=IntKind.i64.wrap n3):n4=x/2:=by
  rw [w64 (by omega)] at e1
  subst e1
  have:IntKind.u64.wrap n=n:=by simp [IntKind.wrap,IntKind.bits,IntKind.signed];omega
  rw [this] at e2
  subst e2
  have e:(2:Int)^min (Int.toNat 1) 64=2:=rfl
  rw [e,Int.fdiv_eq_ediv_of_nonneg _ (by decide)] at e3
  subst e3
  rw [w64 (by omega)] at e4
  exact e4
end Go.Ax.Law
